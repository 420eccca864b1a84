/-
  Several texts in one:
  The least measure of a game, by the program. Conditions: a valid game of at most 16 vertices.
  A measure is one, by the program. Conditions: a valid game of at most 120 vertices.
  Bad cycles, and choices that win on a region: plain. Conditions: a valid game.
  The search for a cycle through one vertex: plain. Conditions: none.
  Choices that are accepted, as the program looks at them: plain. Conditions: a valid game.
  The search for a bad cycle, by the program. Conditions: at most 120 vertices.
  Whether choices win, by the program. Conditions: a valid game.
  The list of what a player wins, and that the strategy is accepted on it: plain. Conditions: a valid game.
  A number below 2 that an input chooses. Conditions: the input's bytes.
-/
import Derived.Test.YthmhlbkkhaplkaaBaseD
import Derived.Test.YthmhlbkkhaplkaaBaseE
import Derived.Test.YthmhlbkkhaplkaaBaseF
import Derived.Test.YthmhlbkkhaplkaaBaseG
import Derived.Test.YthmhlbkkhaplkaaBaseH
set_option linter.unusedSimpArgs false
set_option linter.unusedVariables false
namespace Go.Proofs.Ythmhlbkkhaplkaa
open Go.ChangeShapes Go.WideShapes Go.ChangeAt Go.RowKit
set_option linter.unusedVariables false
set_option linter.unusedSimpArgs false

theorem TabW.made (w : World) (n : Nat) (g : DV) (p : Int) : TabW (w.alloc (.cells (madeCells #[.slice none 0 0] n) 26)) w.heap.size n g p (fun _ => topF g p) := by
  have hg := heap_alloc_new w (.cells (madeCells #[.slice none 0 0] n) 26)
  refine ⟨by rw [World.size_alloc]; omega, fun k hk => ⟨none, 0, 0, (cell_of_row _ _ k _ _ (0, 0) hg).trans ?_, frozen_of_row _ _ k _ _ hg, Nat.le_refl _, ⟨[], Sl.nil_, .inl ⟨rfl, rfl⟩⟩, fun h => absurd h (Nat.lt_irrefl _)⟩⟩
  simp [madeCells, hk, Nat.mod_one]
theorem playerOk_calls (p : Int) (w : World) (hp : p = 0 ∨ p = 1) : Calls Try.prog 26 #[.int .i64 p] w fun e w' => e = .returned (.bool true) ∧ w = w' := by
  have q := hide (fun W => within_calls p 0 1 W)
  have hin : Hid (inB p 0 1 = true) := inB_true.2 (by omega)
  go_enter Try.func26, Try.ntmps26
  go_wp2_with (first | (go_at_call 51; (with_reducible refine (q.out _).mono ?_); rintro e w' ⟨rfl, rfl⟩))
  go_ret
  exact ⟨ret_b hin.out.symm, rfl⟩

set_option maxRecDepth 100000 in
set_option maxHeartbeats 3200000 in
theorem MeasuresOf_calls (G : Option Addr) (n d : Nat) (g : DV) (p : Int) (w : World) (hg : GameAt w G n g) (ok : GameOk g) (hp : p = 0 ∨ p = 1) (h16 : n ≤ 16) :
    Calls Try.prog 10 #[.slice G n d, .int .i64 p] w fun e w' => ∃ b c μ, e = .returned (.tuple #[.slice (some ⟨b, 0, none⟩) n c, .int .i64 0]) ∧ TabW w' b n g p μ ∧ w.heap.size ≤ b ∧ LeastI g p μ ∧ (∀ v, v < g.length → dueV g p μ v ≤ μ v) ∧ Below w.heap.size w w' := by
  have hgl := hg.len
  have hn1 : 0 < n ∧ n ≤ 120 := by have := ok.1; omega
  obtain ⟨bg, og, rfl, hbg⟩ := hg.addr hn1.1
  have q1 := hide (gameAt_valid (c := d) hg ok)
  have q2 := hide (fun W => playerOk_calls p W hp)
  have q3 := hide (fun W (hW : Below w.heap.size w W) => newMeasured_calls _ n d g p W (hg.below hW (Nat.le_refl _)) ok hp)
  have hmk := run_make_rows n (by omega)
  have hmk5 : ∀ W, (Instr.makeSlice 26 (.int .i64 5) (.int .i64 5)).run Try.prog W = .ok (.slice (some ⟨W.heap.size, 0, none⟩) 5 5) (W.alloc (.cells (madeCells #[.int .i64 0] 5) 2)) := fun W => run_make_int 5 (by omega) W
  replace hg := hide hg
  replace ok := hide ok
  replace hgl := hide hgl
  obtain ⟨hn0, hn7⟩ := hn1
  have k16 : ¬ (n : Int) > 16 := by omega
  have k16' : ¬ (16 : Int) < (n : Int) := by omega
  go_enter Try.func10, Try.ntmps10
  go_wp2_with fail
  refine q1.out.mono ?_
  rintro e w1 ⟨rfl, hb1⟩
  have q3' := hide (q3.out w1 hb1)
  have hz1 := hb1.size
  replace hb1 := hide hb1
  clear q1 q3
  go_wp2_with (first | (go_at_call 26; (with_reducible refine (q2.out _).mono ?_); rintro e w' ⟨rfl, rfl⟩) | fail)
  refine q3'.out.mono ?_
  rintro e w2 ⟨rfl, hM2, hb2⟩
  have hB2 := hide (hb1.out.trans (hb2.mono hz1))
  have hbm := hM2.lt
  have hT0 : Hid (TabW (w2.alloc (.cells (madeCells #[.slice none 0 0] n) 26)) w2.heap.size n g p (fun v => if v < 0 then 0 else topF g p)) := (TabW.made w2 n g p).congr fun v _ => by rw [if_neg (Nat.not_lt_zero _)]
  have hB0 := hide (hB2.out.alloc hB2.out.size (.cells (madeCells #[.slice none 0 0] n) 26))
  obtain ⟨wM, hwM⟩ : ∃ wM, wM = w2.alloc (.cells (madeCells #[.slice none 0 0] n) 26) := ⟨_, rfl⟩
  obtain ⟨b, hb⟩ : ∃ b, b = w2.heap.size := ⟨_, rfl⟩
  obtain ⟨bm, hbmm⟩ : ∃ bm, bm = w1.heap.size := ⟨_, rfl⟩
  have hMb : Hid (MeaW wM bm p (mostF g p)) := by rw [hwM, hbmm]; exact hM2.keep (Below.heap_alloc _ _ _ hbm)
  rw [← hb] at hT0
  rw [← hwM] at hT0 hB0
  have hwb : w.heap.size ≤ b := by rw [hb]; exact hB2.out.size
  have hbmb : bm < b := by omega
  have hbmz : bm < wM.heap.size := hMb.out.lt
  have hbz : b < wM.heap.size := hT0.out.1
  clear q2 q3' hb1 hb2 hB2 hM2
  go_upto_region 9 with fail
  rw [← hwM, ← hb, ← hbmm]
  replace hwM := hide hwM
  replace hb := hide hb
  replace hbmm := hide hbmm
  go_wp2_with fail
  go_loopw [33] (fun i wr => ∃ k : Nat, k ≤ n ∧ i = .int .i64 (k : Nat) ∧ Hid (TabW wr b n g p (fun v => if v < k then 0 else topF g p)) ∧ Hid (Below w.heap.size w wr) ∧ Hid (MeaW wr bm p (mostF g p)) ∧ wM.heap.size ≤ wr.heap.size) (fun i _ => n - (intOf i).toNat)
  case atStart => exact ⟨0, Nat.zero_le _, rfl, hT0.out, hB0.out, hMb.out, Nat.le_refl _⟩
  case round =>
    clear hT0 hB0 hMb
    obtain ⟨k, hk, rfl, hT, hB, hM, hzr⟩ := hrel
    by_cases hlt : k < n
    · have k0 : (0 : Int) ≤ (k : Int) := by omega
      have k1 : (k : Int) < (n : Int) := by omega
      have hTa := hT.out.below ((Below.refl wr.heap.size wr).alloc (Nat.le_refl _) (.cells (madeCells #[.int .i64 0] 5) 2)) (Nat.le_refl _)
      obtain ⟨A', m', c', a1, a2, -⟩ := hTa.2 k hlt
      have hT2 : Hid (TabW ((wr.alloc (.cells (madeCells #[.int .i64 0] 5) 2)).setCell ⟨b, k, none⟩ (.slice (some ⟨wr.heap.size, 0, none⟩) 5 5)) b n g p (fun v => if v < k + 1 then 0 else topF g p)) :=
        (hTa.set hlt ((zeros_row wr g p).more (Nat.zero_le _) (by rw [World.size_alloc]; exact Nat.le_refl _)) (Nat.le_refl 5) (fun _ q o e => by injection e with e; injection e with e; omega)).congr fun v _ => by
          (try dsimp only)
          by_cases e : v = k
          · rw [if_pos e, if_pos (by omega)]
          · rw [if_neg e]
            by_cases c : v < k
            · rw [if_pos c, if_pos (by omega)]
            · rw [if_neg c, if_neg (by omega)]
      have hB2 := hide ((hB.out.alloc hB.out.size (.cells (madeCells #[.int .i64 0] 5) 2)).setCell (p := ⟨b, k, none⟩) hwb (.slice (some ⟨wr.heap.size, 0, none⟩) 5 5))
      have hM2 : Hid (MeaW ((wr.alloc (.cells (madeCells #[.int .i64 0] 5) 2)).setCell ⟨b, k, none⟩ (.slice (some ⟨wr.heap.size, 0, none⟩) 5 5)) bm p (mostF g p)) := (hM.out.keep (Below.heap_alloc _ _ _ (by omega))).keep (Below.heap_setCell _ _ _ _ (by show bm ≠ b; omega))
      clear hTa
      go_wp2_with fail
      go_roundw
      case rel => exact ⟨k + 1, by omega, by go_num, hT2.out, hB2.out, hM2.out, by rw [World.size_setCell, World.size_alloc]; omega⟩
      case measure => simp [intOf]; omega
    · obtain rfl : k = n := by omega
      have k1 : ¬ (k : Int) < (k : Int) := by omega
      have hT3 : Hid (TabW wr b k g p (fun _ => 0)) := hT.out.congr fun v hv => by rw [if_pos hv]
      clear hT
      go_wp2_with fail
      obtain ⟨wL, rfl⟩ : ∃ wL : World, wL = wr := ⟨_, rfl⟩
      go_loopg [9] (2 * leftI g p (fun _ => 0) + 1) (fun N v wr => ∃ (ag : Bool) (μ : Nat → Nat), v = .bool ag ∧ Hid (TabW wr b k g p μ) ∧ Hid (LeastI g p μ) ∧ Hid (ag = false → ∀ v, v < g.length → dueV g p μ v ≤ μ v) ∧ Hid (Below w.heap.size w wr) ∧ Hid (MeaW wr bm p (mostF g p)) ∧ wL.heap.size ≤ wr.heap.size ∧ 2 * leftI g p μ + (if ag then 1 else 0) ≤ N)
      case atStart => exact ⟨true, _, rfl, hT3.out, LeastI.zero, (fun h => by cases h), hB.out, hM.out, Nat.le_refl _, Nat.le_refl _⟩
      case round =>
        clear hT3 hB hM
        obtain ⟨ag, μ, rfl, hT, hL, hD, hB, hM, hzr2, hN⟩ := hrel
        cases ag with
        | false =>
          replace hD := hide (hD.out rfl)
          go_wp2_with fail
          go_ret2
          exact ⟨b, _, μ, rfl, hT.out, hwb, hL.out, hD.out, hB.out⟩
        | true =>
          obtain ⟨N2, rfl⟩ : ∃ N2, gk = N2 + 1 := ⟨gk - 1, by simp at hN; omega⟩
          have hN2 : Hid (2 * leftI g p μ ≤ N2) := by show _ ≤ _; simp at hN; omega
          clear hD hN
          go_wp2_with fail
          obtain ⟨wP, rfl⟩ : ∃ wP : World, wP = wr := ⟨_, rfl⟩
          go_loopw [9, 44] (fun v i wr => ∃ (ag : Bool) (q : Nat) (ν : Nat → Nat), q ≤ k ∧ v = .bool ag ∧ i = .int .i64 (q : Nat) ∧ Hid (TabW wr b k g p ν) ∧ Hid (LeastI g p ν) ∧ Hid (ag = false → ∀ v, v < q → dueV g p ν v ≤ ν v) ∧ Hid (leftI g p ν + (if ag then 1 else 0) ≤ leftI g p μ) ∧ Hid (Below w.heap.size w wr) ∧ Hid (MeaW wr bm p (mostF g p)) ∧ wL.heap.size ≤ wr.heap.size) (fun _ i _ => k - (intOf i).toNat)
          case atStart => exact ⟨false, 0, μ, Nat.zero_le _, rfl, rfl, hT.out, hL.out, fun _ v hv => absurd hv (Nat.not_lt_zero _), Nat.le_refl _, hB.out, hM.out, hzr2⟩
          case round =>
            clear hT hL hB hM hzr2
            obtain ⟨ag, q, ν, hq, rfl, rfl, hT, hL, hD, hle, hB, hM, hzr3⟩ := hrel
            by_cases hlt2 : q < k
            · have q0 : (0 : Int) ≤ (q : Int) := by omega
              have q1 : (q : Int) < (k : Int) := by omega
              have hqg : q < g.length := by have := hgl.out; omega
              obtain ⟨o, pr, l, Ah, nh, ch, hx, c0, c1, c2, hs, hnh, hob, hprb, hinc⟩ := (hg.out.below hB.out (Nat.le_refl _)).cell ok.out hlt2
              have hdv : Hid (dueF g p o pr l ν = dueV g p ν q) := by show _ = _; unfold dueV; rw [gOwn_at hx, gPri_at hx, gRaw_at hx]
              have hbA := (Below.refl wr.heap.size wr).alloc (Nat.le_refl _) (.cells #[.int .i64 o, .int .i64 pr, .slice Ah nh ch] 49)
              have hbox := heap_alloc_new wr (.cells #[.int .i64 o, .int .i64 pr, .slice Ah nh ch] 49)
              have y0 : (wr.alloc (.cells #[.int .i64 o, .int .i64 pr, .slice Ah nh ch] 49)).cell? ⟨wr.heap.size, 0, none⟩ = some (.int .i64 o) := (cell_of_row _ _ 0 _ _ (0, 0) hbox).trans rfl
              have y1 : (wr.alloc (.cells #[.int .i64 o, .int .i64 pr, .slice Ah nh ch] 49)).cell? ⟨wr.heap.size, 1, none⟩ = some (.int .i64 pr) := (cell_of_row _ _ 1 _ _ (0, 0) hbox).trans rfl
              have y2 : (wr.alloc (.cells #[.int .i64 o, .int .i64 pr, .slice Ah nh ch] 49)).cell? ⟨wr.heap.size, 2, none⟩ = some (.slice Ah nh ch) := (cell_of_row _ _ 2 _ _ (0, 0) hbox).trans rfl
              have hTa := hide (hT.out.below hbA (Nat.le_refl _))
              have hMa := hide (hM.out.keep (w' := wr.alloc (.cells #[.int .i64 o, .int .i64 pr, .slice Ah nh ch] 49)) (Below.heap_alloc _ _ _ (by omega)))
              have qd := hide (due_calls bm b g p o pr Ah nh ch l k k ν _ hMa.out hp hprb hob (by have := hgl.out; omega) ((hs.below hbA (.inl (Nat.le_refl _))).more (Nat.le_refl _) (by rw [World.size_alloc]; omega)) hnh (fun u hu => hinc.1 u hu) hTa.out)
              have hBa := hide (hB.out.alloc hB.out.size (.cells #[.int .i64 o, .int .i64 pr, .slice Ah nh ch] 49))
              have hzB := hBa.out.size
              have hzA : wr.heap.size < (wr.alloc (.cells #[.int .i64 o, .int .i64 pr, .slice Ah nh ch] 49)).heap.size := by simp
              clear hx hs hbox hbA hM hT hB hinc
              go_wp2_with fail
              refine qd.out.mono ?_
              rintro e w5 ⟨A5, m5, c5, rfl, hmc5, hr5, hb5⟩
              rw [hdv.out] at hr5
              have hT5 := hTa.out.below hb5 (Nat.le_refl _)
              obtain ⟨Ar, mr, cr, ar, fr, -, hrr, -⟩ := hT5.2 q hlt2
              obtain ⟨la, hla, hra⟩ := hr5
              obtain ⟨lb, hlb, hrb⟩ := hrr
              have qc := compareRows_calls A5 Ar m5 mr c5 cr la lb g p _ _ w5 _ _ _ _ hla hlb hra hrb
              have hB5 := hide (hBa.out.trans (hb5.mono hzB))
              have hM5 := hide (hMa.out.below hb5 (by omega))
              have hz5 := hb5.size
              clear qd hTa hMa hBa hb5 hlb hrb
              by_cases hgt : ν q < dueV g p ν q
              · have hs1 : sgnN (dueV g p ν q) (ν q) = 1 := by unfold sgnN; rw [if_neg (by omega), if_pos hgt]
                rw [hs1] at qc
                replace qc := hide qc
                have hT6 := hide (hT5.set hlt2 ⟨la, hla.more (Nat.zero_le _) (Nat.le_refl _), hra⟩ hmc5 (fun hm q' o' e => by
                  obtain ⟨b', o'', e', g1, -⟩ := hla.at_ hm
                  rw [e] at e'
                  cases e'
                  omega))
                have hL6 := hide (hL.out.raise ok.out hqg)
                have hlr := leftI_raise (x := dueV g p ν q) hL.out hqg hgt dueF_top
                have hB6 := hide (hB5.out.setCell (p := ⟨b, q, none⟩) hwb (.slice A5 m5 c5))
                have hM6 : Hid (MeaW (w5.setCell ⟨b, q, none⟩ (.slice A5 m5 c5)) bm p (mostF g p)) := hM5.out.keep (Below.heap_setCell _ _ _ _ (by show bm ≠ b; omega))
                have hle6 : Hid (leftI g p (fun v => if v = q then dueV g p ν q else ν v) + 1 ≤ leftI g p μ) := by show _ ≤ _; have := hle.out; omega
                clear hs1 hlr hT5 hla hra
                go_wp2_with (first | (go_at_call 29; (with_reducible refine qc.out.mono ?_); rintro e w' ⟨rfl, rfl⟩))
                go_roundw
                case rel => exact ⟨true, q + 1, _, by omega, rfl, by go_num, hT6.out, hL6.out, (fun h => by cases h), hle6.out, hB6.out, hM6.out, by rw [World.size_setCell]; omega⟩
                case measure => simp [intOf]; omega
              · have hc : sgnN (dueV g p ν q) (ν q) = -1 ∨ sgnN (dueV g p ν q) (ν q) = 0 := by
                  unfold sgnN
                  by_cases c : dueV g p ν q < ν q
                  · rw [if_pos c]; exact .inl rfl
                  · rw [if_neg c, if_neg hgt]; exact .inr rfl
                have hc2 : ¬ sgnN (dueV g p ν q) (ν q) > 0 := by omega
                have hD2 : Hid (ag = false → ∀ v, v < q + 1 → dueV g p ν v ≤ ν v) := fun h v hv => by
                  by_cases e : v = q
                  · rw [e]; omega
                  · exact hD.out h v (by omega)
                generalize sgnN (dueV g p ν q) (ν q) = z at *
                replace hT5 := hide hT5
                replace qc := hide qc
                clear hc hla hra hgt
                go_wp2_with (first | (go_at_call 29; (with_reducible refine qc.out.mono ?_); rintro e w' ⟨rfl, rfl⟩))
                go_roundw
                case rel => exact ⟨ag, q + 1, ν, by omega, rfl, by go_num, hT5.out, hL.out, hD2.out, hle.out, hB5.out, hM5.out, by omega⟩
                case measure => simp [intOf]; omega
            · obtain rfl : q = k := by omega
              have q1 : ¬ (q : Int) < (q : Int) := by omega
              have hD3 : Hid (ag = false → ∀ v, v < g.length → dueV g p ν v ≤ ν v) := fun h v hv => hD.out h v (by have := hgl.out; omega)
              have hN3 : Hid (2 * leftI g p ν + (if ag then 1 else 0) ≤ N2) := by
                show _ ≤ _
                have h1 := hle.out
                have h2 := hN2.out
                cases ag <;> simp at h1 ⊢ <;> omega
              clear hD hle
              go_wp2_with fail
              go_roundg N2
              case measure => omega
              case rel => exact ⟨ag, ν, rfl, hT.out, hL.out, hD3.out, hB.out, hM.out, hzr3, hN3.out⟩

end Go.Proofs.Ythmhlbkkhaplkaa

namespace Go.Proofs.Ythmhlbkkhaplkaa
open Go.ChangeShapes Go.WideShapes Go.ChangeAt Go.RowKit
set_option linter.unusedVariables false
set_option linter.unusedSimpArgs false

set_option maxRecDepth 100000 in
set_option maxHeartbeats 3200000 in
theorem IsMeasure_calls (G : Option Addr) (n d c bt : Nat) (g : DV) (p : Int) (μ : Nat → Nat) (w : World) (hg : GameAt w G n g) (ok : GameOk g) (hp : p = 0 ∨ p = 1) (hT : TabW w bt n g p μ) (hP : PreF g p μ) (hle : ∀ v, v < g.length → μ v ≤ topF g p) :
    Calls Try.prog 11 #[.slice G n d, .int .i64 p, .slice (some ⟨bt, 0, none⟩) n c] w fun e w' => e = .returned (.bool true) ∧ Below w.heap.size w w' := by
  have hgl := hg.len
  have hn1 : 0 < n ∧ n ≤ 120 := by have := ok.1; omega
  obtain ⟨bg, og, rfl, hbg⟩ := hg.addr hn1.1
  have hB0 := hide ((Below.refl w.heap.size w).alloc (Nat.le_refl _) (.cells #[.slice (some ⟨bt, 0, none⟩) n c] 31))
  have hbx5 := heap_alloc_new w (.cells #[.slice (some ⟨bt, 0, none⟩) n c] 31)
  have q2 := hide (fun W => playerOk_calls p W hp)
  have hbtl := hT.1
  obtain ⟨wA, hwA⟩ : ∃ wA, wA = w.alloc (.cells #[.slice (some ⟨bt, 0, none⟩) n c] 31) := ⟨_, rfl⟩
  rw [← hwA] at hB0 hbx5
  have hbl5 : w.heap.size < wA.heap.size := by rw [hwA]; simp
  have q1 := hide (gameAt_valid (c := d) (hg.below hB0.out (Nat.le_refl _)) ok)
  have q3 := hide (fun W (hW : Below wA.heap.size wA W) => newMeasured_calls _ n d g p W (hg.below (hB0.out.trans (hW.mono hB0.out.size)) (Nat.le_refl _)) ok hp)
  have h5 := hide (fun W (hW : Below wA.heap.size wA W) => ((cell_of_row _ _ 0 _ _ (0, 0) ((hW.block w.heap.size hbl5).trans hbx5)).trans rfl : W.cell? ⟨w.heap.size, 0, none⟩ = some (.slice (some ⟨bt, 0, none⟩) n c)))
  replace hg := hide hg
  replace ok := hide ok
  replace hgl := hide hgl
  replace hT := hide hT
  replace hP := hide hP
  replace hle := hide hle
  clear hbx5
  obtain ⟨hn0, hn7⟩ := hn1
  go_enter Try.func11, Try.ntmps11
  go_upto_region 1 with fail
  rw [← hwA]
  replace hwA := hide hwA
  have y5 := h5.out wA (Below.refl _ _)
  go_wp2_with fail
  refine q1.out.mono ?_
  rintro e w1 ⟨rfl, hb1⟩
  have y5 := h5.out w1 hb1
  have q3' := hide (q3.out w1 hb1)
  have hz1 := hb1.size
  replace hb1 := hide hb1
  clear q1 q3
  go_wp2_with (first | (go_at_call 26; (with_reducible refine (q2.out _).mono ?_); rintro e w' ⟨rfl, rfl⟩) | fail)
  refine q3'.out.mono ?_
  rintro e w2 ⟨rfl, hM2, hb2⟩
  have hB2 := hide (hb1.out.trans (hb2.mono hz1))
  have hbm := hM2.lt
  have hbxx := heap_alloc_new w2 (.cells #[.pointer (some ⟨w1.heap.size, 0, none⟩)] 53)
  have hB3 := hide (hB2.out.alloc hB2.out.size (.cells #[.pointer (some ⟨w1.heap.size, 0, none⟩)] 53))
  have hM3 : MeaW (w2.alloc (.cells #[.pointer (some ⟨w1.heap.size, 0, none⟩)] 53)) w1.heap.size p (mostF g p) := hM2.keep (Below.heap_alloc _ _ _ hbm)
  obtain ⟨wX, hwX⟩ : ∃ wX, wX = w2.alloc (.cells #[.pointer (some ⟨w1.heap.size, 0, none⟩)] 53) := ⟨_, rfl⟩
  rw [← hwX] at hbxx hB3 hM3
  have hbl7 : w2.heap.size < wX.heap.size := by rw [hwX]; simp
  have y7 := hide (fun W (hW : Below wX.heap.size wX W) => ((cell_of_row _ _ 0 _ _ (0, 0) ((hW.block w2.heap.size hbl7).trans hbxx)).trans rfl : W.cell? ⟨w2.heap.size, 0, none⟩ = some (.pointer (some ⟨w1.heap.size, 0, none⟩))))
  have hT3 := hide (hT.out.below (hB0.out.trans (hB3.out.mono hB0.out.size)) (Nat.le_refl _))
  have q4 := hide (containsFuncT_calls 31 #[.pointer (some ⟨w2.heap.size, 0, none⟩)] bt n c g p μ wX hT3.out hn7 (fun v W => by kernel_rfl) fun A m d x W hr hW =>
    isM1_calls w1.heap.size w2.heap.size g p A m d x W 0 W.heap.size (hM3.below hW (by omega)) (y7.out W hW) hr)
  have hz3 := hB3.out.size
  have y5 := h5.out wX hB3.out
  replace hM3 := hide hM3
  have hbm3 : w1.heap.size < wX.heap.size := hM3.out.lt
  clear q2 q3' hb1 hb2 hB2 hM2 hbxx
  go_upto_region 4 with fail
  rw [← hwX]
  replace hwX := hide hwX
  obtain ⟨bx, hbx⟩ : ∃ bx, bx = w2.heap.size := ⟨_, rfl⟩
  obtain ⟨bm, hbmm⟩ : ∃ bm, bm = w1.heap.size := ⟨_, rfl⟩
  rw [← hbx] at hbl7 y7 q4 ⊢
  rw [← hbmm] at hM3 hbm3 y7
  replace hbx := hide hbx
  replace hbmm := hide hbmm
  go_wp2_with fail
  refine q4.out.mono ?_
  rintro e w4 ⟨rfl, hb4⟩
  have hB4 := hide (hB3.out.trans (hb4.mono hz3))
  have hX4 := hide hb4
  have hz4 := hb4.size
  clear q4 hb4
  go_wp2_with fail
  go_loopw [34] (fun i wr => ∃ k : Nat, k ≤ n ∧ i = .int .i64 (k : Nat) ∧ Hid (Below wX.heap.size wX wr)) (fun i _ => n - (intOf i).toNat)
  case atStart => exact ⟨0, Nat.zero_le _, rfl, hX4.out⟩
  case round =>
    clear hX4 hB4
    obtain ⟨k, hk, rfl, hB⟩ := hrel
    by_cases hlt : k < n
    · have k0 : (0 : Int) ≤ (k : Int) := by omega
      have k1 : (k : Int) < (n : Int) := by omega
      have hkg : k < g.length := by have := hgl.out; omega
      have hBA := hB3.out.trans (hB.out.mono hz3)
      obtain ⟨o, pr, l, Ah, nh, ch, hx, c0, c1, c2, hs, hnh, hob, hprb, hinc⟩ := (hg.out.below (hB0.out.trans (hBA.mono hB0.out.size)) (Nat.le_refl _)).cell ok.out hlt
      have hu : ∀ x, x ∈ l → ∃ u : Nat, x = (u : Int) ∧ u < n ∧ u ∈ gNxt g k := fun x hxl => by
        obtain ⟨h0, h1⟩ := hinc.1 x hxl
        refine ⟨x.toNat, by omega, by omega, ?_⟩
        rw [gNxt_raw, gRaw_at hx]
        exact List.mem_map_of_mem hxl
      have hpo : gOwn g k = o := gOwn_at hx
      have hpp : gPri g k = pr := gPri_at hx
      have hnx : gNxt g k = l.map Int.toNat := by rw [gNxt_raw, gRaw_at hx]
      generalize hC1 : Obj.cells #[.int .i64 (k : Nat)] 3 (0, 0) = C1
      generalize hC2 : Obj.cells #[.int .i64 o, .int .i64 pr, .slice Ah nh ch] 49 (0, 0) = C2
      obtain ⟨caps, hcaps⟩ : ∃ caps, caps = (#[.pointer (some ⟨bx, 0, none⟩), .pointer (some ⟨w.heap.size, 0, none⟩), .pointer (some ⟨wr.heap.size, 0, none⟩), .pointer (some ⟨wr.heap.size + 1, 0, none⟩)] : Array Value) := ⟨_, rfl⟩
      generalize hC3 : Obj.cells #[.func (.func 33) #[] caps] 47 (0, 0) = C3
      obtain ⟨wq, hwq⟩ : ∃ wq, wq = ((wr.alloc C1).alloc C2).alloc C3 := ⟨_, rfl⟩
      have hbq := (((Below.refl wr.heap.size wr).alloc (Nat.le_refl _) C1).alloc (by simp) C2).alloc (by simp; omega) C3
      have e1 : wq.heap[wr.heap.size]? = some C1 := by rw [hwq]; exact (Below.heap_alloc _ _ _ (by simp; omega)).trans ((Below.heap_alloc _ _ _ (by simp)).trans (heap_alloc_new wr C1))
      have e2 : wq.heap[wr.heap.size + 1]? = some C2 := by
        have := heap_alloc_new (wr.alloc C1) C2
        rw [World.size_alloc] at this
        rw [hwq]; exact (Below.heap_alloc _ _ _ (by simp)).trans this
      have e3 : wq.heap[wr.heap.size + 2]? = some C3 := by
        have := heap_alloc_new ((wr.alloc C1).alloc C2) C3
        rw [World.size_alloc, World.size_alloc] at this
        rw [hwq]; exact this
      rw [← hwq] at hbq
      have hzq : wq.heap.size = wr.heap.size + 3 := by rw [hwq]; simp
      subst hC1 hC2 hC3
      have z8 := fun (W : World) (hW : Below wq.heap.size wq W) => ((cell_of_row _ _ 0 _ _ (0, 0) ((hW.block wr.heap.size (by omega)).trans e1)).trans rfl : W.cell? ⟨wr.heap.size, 0, none⟩ = some (.int .i64 (k : Nat)))
      have z90 := fun (W : World) (hW : Below wq.heap.size wq W) => ((cell_of_row _ _ 0 _ _ (0, 0) ((hW.block (wr.heap.size + 1) (by omega)).trans e2)).trans rfl : W.cell? ⟨wr.heap.size + 1, 0, none⟩ = some (.int .i64 o))
      have z91 := fun (W : World) (hW : Below wq.heap.size wq W) => ((cell_of_row _ _ 1 _ _ (0, 0) ((hW.block (wr.heap.size + 1) (by omega)).trans e2)).trans rfl : W.cell? ⟨wr.heap.size + 1, 1, none⟩ = some (.int .i64 pr))
      have z92 := fun (W : World) (hW : Below wq.heap.size wq W) => ((cell_of_row _ _ 2 _ _ (0, 0) ((hW.block (wr.heap.size + 1) (by omega)).trans e2)).trans rfl : W.cell? ⟨wr.heap.size + 1, 2, none⟩ = some (.slice Ah nh ch))
      have z10 := fun (W : World) (hW : Below wq.heap.size wq W) => ((cell_of_row _ _ 0 _ _ (0, 0) ((hW.block (wr.heap.size + 2) (by omega)).trans e3)).trans rfl : W.cell? ⟨wr.heap.size + 2, 0, none⟩ = some (.func (.func 33) #[] caps))
      have hBq := hB.out.trans (hbq.mono hB.out.size)
      have hBX := hB3.out.trans (hBq.mono hz3)
      have hzX := hB.out.size
      have hcl := fun (u : Nat) (W : World) (hu : u < n) (hW : Below wq.heap.size wq W) => isM2_calls bm bx w.heap.size bt wr.heap.size (wr.heap.size + 1) n c k u g p o pr Ah nh ch μ W hp hprb
        (hM3.out.below (hBq.trans (hW.mono hBq.size)) hbm3) (hT3.out.below (hBq.trans (hW.mono hBq.size)) (Nat.le_refl _)) (y7.out W (hBq.trans (hW.mono hBq.size))) (h5.out W (hBX.trans (hW.mono hBX.size))) (z8 W hW) (z91 W hW) hlt hu
      rw [← hcaps] at hcl
      have hsq : SlI wq 0 wq.heap.size Ah nh l := (hs.below hbq (.inl (Nat.le_refl _))).more (Nat.le_refl _) hbq.size
      have x5 := h5.out wq hBX
      have x0 := z90 wq (Below.refl _ _)
      have x2 := z92 wq (Below.refl _ _)
      have x8 := z8 wq (Below.refl _ _)
      have x10 := z10 wq (Below.refl _ _)
      obtain ⟨Ar, mr, dr, cr, -, -, hrr, -⟩ := (hT3.out.below hBq (Nat.le_refl _)).2 k hlt
      obtain ⟨la, hla, hra⟩ := hrr
      have hlal := hla.len
      have hwqs : Hid (wq = ((wr.alloc (.cells #[.int .i64 (k : Nat)] 3)).alloc (.cells #[.int .i64 o, .int .i64 pr, .slice Ah nh ch] 49)).alloc (.cells #[.func (.func 33) #[] caps] 47)) := hwq
      have q5 := hide (containsFuncJ_calls 33 caps (fun v => enoB g p pr (μ k) (μ v.toNat)) Ah nh ch l wq 0 _ hsq hnh (fun v W => by rw [hcaps]; kernel_rfl) (fun v W hv hW => by
        obtain ⟨u, rfl, hu1, -⟩ := hu v hv
        exact hcl u W hu1 hW))
      have q6 := hide (containsFuncJ_calls 36 #[.pointer (some ⟨wr.heap.size + 2, 0, none⟩)] (fun v => !enoB g p pr (μ k) (μ v.toNat)) Ah nh ch l wq 0 _ hsq hnh (fun v W => by kernel_rfl) (fun v W hv hW => by
        obtain ⟨u, rfl, hu1, -⟩ := hu v hv
        exact isM3_calls _ u _ caps W (z10 W hW) (fun v W => by rw [hcaps]; kernel_rfl) (hcl u W hu1 hW)))
      replace hBq := hide hBq
      have hown : gOwn g k = p → μ k < topF g p → ∃ u, u ∈ gNxt g k ∧ needF g p (gPri g k) (μ u) ≤ μ k := fun a b => hP.out.own k hkg a b
      have hopp : gOwn g k ≠ p → ∀ u, u ∈ gNxt g k → needF g p (gPri g k) (μ u) ≤ μ k := fun a => hP.out.opp k hkg a
      rw [hpo, hpp] at hown hopp
      clear z8 z90 z91 z92 z10 hcl hx hs hinc hwq hbq hBA hsq e1 e2 e3 hM3 hT3 hBX
      replace hT := hide hT
      subst hcaps
      by_cases hop : o = p
      · have hop2 : (o == p) = true := by rw [beq_iff_eq]; exact hop
        have hown := hown hop
        clear q6 hopp
        subst hop
        rcases hra.len with ⟨r0, -⟩ | ⟨r5, rlt⟩
        · obtain rfl : mr = 0 := by omega
          clear hra hla q5 hown hu
          go_upto_region 10 with fail
          rw [← hwqs.out]
          go_wp2_with fail
          go_roundw
          case rel => exact ⟨k + 1, by omega, by go_num, hBq.out⟩
          case measure => simp [intOf]; omega
        · obtain rfl : mr = 5 := by omega
          have hv : Hid (l.any (fun v => enoB g o pr (μ k) (μ v.toNat)) = true) := by
            obtain ⟨u, hu1, hu2⟩ := hown rlt
            rw [hnx] at hu1
            obtain ⟨x, hx1, rfl⟩ := List.mem_map.1 hu1
            exact List.any_eq_true.2 ⟨x, hx1, decide_eq_true hu2⟩
          clear hra hla hown hu
          go_upto_region 10 with fail
          rw [← hwqs.out]
          go_wp2_with fail
          refine q5.out.mono ?_
          rw [hv.out]
          rintro e w6 ⟨rfl, hb6⟩
          have hB6 := hide (hBq.out.trans (hb6.mono hBq.out.size))
          clear hb6 q5 x0 x2 x5 x8 x10
          go_wp2_with fail
          go_roundw
          case rel => exact ⟨k + 1, by omega, by go_num, hB6.out⟩
          case measure => simp [intOf]; omega
      · have hop2 : (o == p) = false := by rw [beq_eq_false_iff_ne]; exact hop
        have hopp := hopp hop
        have hv : Hid (l.any (fun v => !enoB g p pr (μ k) (μ v.toNat)) = false) := by
          refine List.any_eq_false.2 fun x hx1 => ?_
          have := hopp x.toNat (by rw [hnx]; exact List.mem_map_of_mem hx1)
          have e : enoB g p pr (μ k) (μ x.toNat) = true := decide_eq_true this
          rw [e]; exact Bool.false_ne_true
        clear hra hla hown hopp hu q5
        go_upto_region 10 with fail
        rw [← hwqs.out]
        go_wp2_with fail
        refine q6.out.mono ?_
        rw [hv.out]
        rintro e w6 ⟨rfl, hb6⟩
        have hB6 := hide (hBq.out.trans (hb6.mono hBq.out.size))
        clear hb6 q6 x0 x2 x5 x8 x10
        go_wp2_with fail
        go_roundw
        case rel => exact ⟨k + 1, by omega, by go_num, hB6.out⟩
        case measure => simp [intOf]; omega
    · obtain rfl : k = n := by omega
      have k1 : ¬ (k : Int) < (k : Int) := by omega
      go_wp2_with fail
      go_ret
      exact ⟨rfl, hB0.out.trans ((hB3.out.trans (hB.out.mono hz3)).mono hB0.out.size)⟩

end Go.Proofs.Ythmhlbkkhaplkaa

namespace Go.Proofs.Ythmhlbkkhaplkaa
set_option linter.unusedVariables false
set_option linter.unusedSimpArgs false

/-- Reached from k by one move or more, by what is fine. -/
inductive RchP (E : Nat → Nat → Prop) (fine : Nat → Prop) (k : Nat) : Nat → Prop
  | one {b : Nat} : E k b → fine b → RchP E fine k b
  | more {a b : Nat} : RchP E fine k a → E a b → fine b → RchP E fine k b
section
variable {E : Nat → Nat → Prop} {fine : Nat → Prop} {k b : Nat}
theorem RchP.path (h : RchP E fine k b) : ∃ (n : Nat) (f : Nat → Nat), f 0 = k ∧ f (n + 1) = b ∧ (∀ t, t ≤ n → E (f t) (f (t + 1))) ∧ ∀ t, t ≤ n → fine (f (t + 1)) := by
  induction h with
  | @one b h1 h2 =>
    refine ⟨0, fun t => if t = 0 then k else b, rfl, rfl, fun t ht => ?_, fun t ht => ?_⟩
    · obtain rfl : t = 0 := by omega
      exact h1
    · obtain rfl : t = 0 := by omega
      exact h2
  | @more a b _ h1 h2 ih =>
    obtain ⟨n, f, e0, e1, h3, h4⟩ := ih
    refine ⟨n + 1, fun t => if t = n + 2 then b else f t, ?_, if_pos rfl, fun t ht => ?_, fun t ht => ?_⟩
    · dsimp only; rw [if_neg (by omega)]; exact e0
    · dsimp only
      rw [if_neg (show t ≠ n + 2 by omega)]
      by_cases c : t = n + 1
      · subst c; rw [if_pos rfl, e1]; exact h1
      · rw [if_neg (by omega)]; exact h3 t (by omega)
    · dsimp only
      by_cases c : t = n + 1
      · subst c; rw [if_pos rfl]; exact h2
      · rw [if_neg (by omega)]; exact h4 t (by omega)
/-- A cycle, gone round for ever. -/
theorem RchP.round (h : RchP E fine k k) : ∃ f : Nat → Nat, f 0 = k ∧ (∀ t, E (f t) (f (t + 1))) ∧ (∀ t, f t = k ∨ fine (f t)) ∧ ∀ N, ∃ t, N ≤ t ∧ f t = k := by
  obtain ⟨n, f, e0, e1, h1, h2⟩ := h.path
  have hmod : ∀ t, t % (n + 1) < n + 1 := fun t => Nat.mod_lt _ (Nat.succ_pos _)
  refine ⟨fun t => f (t % (n + 1)), e0, fun t => ?_, fun t => ?_, fun N => ⟨N * (n + 1), Nat.le_mul_of_pos_right _ (Nat.succ_pos _), by show f (N * (n + 1) % (n + 1)) = k; rw [Nat.mul_mod_left]; exact e0⟩⟩
  · have h3 := hmod t
    show E (f (t % (n + 1))) (f ((t + 1) % (n + 1)))
    by_cases c : t % (n + 1) = n
    · have e : (t + 1) % (n + 1) = 0 := by rw [Nat.add_mod, c]; by_cases k0 : n = 0 <;> simp [k0]
      have := h1 n (Nat.le_refl _)
      rw [e1] at this
      rw [e, c, e0]; exact this
    · have e : (t + 1) % (n + 1) = t % (n + 1) + 1 := by rw [Nat.add_mod, Nat.mod_eq_of_lt (show 1 < n + 1 by omega), Nat.mod_eq_of_lt (by omega)]
      rw [e]; exact h1 _ (by omega)
  · show f (t % (n + 1)) = k ∨ fine (f (t % (n + 1)))
    cases c : t % (n + 1) with
    | zero => exact .inl e0
    | succ s => exact .inr (h2 s (by have := hmod t; omega))
theorem RchP.seg {f : Nat → Nat} (hE : ∀ t, E (f t) (f (t + 1))) {i : Nat} (hf : ∀ t, i < t → fine (f t)) : ∀ d, RchP E fine (f i) (f (i + d + 1))
  | 0 => .one (hE i) (hf _ (by omega))
  | d + 1 => .more (RchP.seg hE hf d) (hE (i + d + 1)) (hf _ (by omega))
end
/-- Something that comes again and again among finitely many. -/
theorem inf_one {P : Nat → Prop} {f : Nat → Nat} {n : Nat} (hf : ∀ i, f i < n) (h : ∀ N, ∃ i, N ≤ i ∧ P (f i)) : ∃ k, P k ∧ ∀ N, ∃ i, N ≤ i ∧ f i = k := by
  classical
  have key : ∀ K, (∃ k, P k ∧ ∀ N, ∃ i, N ≤ i ∧ f i = k) ∨ ∃ N, ∀ i, N ≤ i → P (f i) → K ≤ f i := by
    intro K
    induction K with
    | zero => exact .inr ⟨0, fun i _ _ => Nat.zero_le _⟩
    | succ K ih =>
      rcases ih with h1 | ⟨N, h1⟩
      · exact .inl h1
      · by_cases c : P K ∧ ∀ M, ∃ i, M ≤ i ∧ f i = K
        · exact .inl ⟨K, c⟩
        · by_cases c1 : P K
          · obtain ⟨M, hM⟩ := Classical.not_forall.1 fun c2 => c ⟨c1, c2⟩
            refine .inr ⟨N + M, fun i hi hp => ?_⟩
            have h2 := h1 i (by omega) hp
            have h3 : f i ≠ K := fun e => hM ⟨i, by omega, e⟩
            omega
          · refine .inr ⟨N, fun i hi hp => ?_⟩
            have h2 := h1 i hi hp
            have h3 : f i ≠ K := fun e => c1 (e ▸ hp)
            omega
  rcases key n with h1 | ⟨N, h1⟩
  · exact h1
  · obtain ⟨i, hi, hp⟩ := h N
    have h2 := h1 i hi hp
    have h3 := hf i
    omega

section
variable {g : DV} {p : Int}
/-- There is a cycle whose least priority is not player p's. -/
def BadC (g : DV) (p : Int) (E : Nat → Nat → Prop) : Prop := ∃ k, k < g.length ∧ gPri g k % 2 ≠ p ∧ RchP E (fun b => gPri g k ≤ gPri g b) k k
/-- A play on which the winner moves by the strategy. -/
theorem play_good (ok : GameOk g) {f : Nat → Nat} (h0 : f 0 < g.length) (hf : ∀ i, f (i + 1) ∈ gNxt g (f i) ∧ (gOwn g (f i) = wonI g (f i) → f (i + 1) = (choW g (f i : Int)).toNat)) : GoodP g (wonI g (f 0)) f := by
  have hw : ∀ i, f i < g.length ∧ wonI g (f i) = wonI g (f 0) := fun i => by
    induction i with
    | zero => exact ⟨h0, rfl⟩
    | succ i ih =>
      refine ⟨ok.succ _ _ (hf i).1, ?_⟩
      rw [← ih.2]
      by_cases c : gOwn g (f i) = wonI g (f i)
      · rw [(hf i).2 c]; exact (choW_at ok ih.1 c).2.2
      · exact opp_at ok ih.1 c (hf i).1
  have hs := stateK_ok ok g.length (Nat.le_refl _)
  have hso := hs.ok
  have hsl := hs.len
  have hsw := hs.win
  have hsn := hs.own
  clear hs
  have hraw := state_raw ok g.length (Nat.le_refl _)
  have hpri := state_pri (g := g) g.length
  generalize hG : (stateK g g.length).1 = G at hso hsl hsw hsn hraw hpri
  have hl : G.length = g.length := hsl
  have e1 : ∀ u, u < g.length → wonI G u = wonI g u := fun u hu => wonI_eq hsw hsl (by rw [hl]; exact hu)
  have hgo : ∀ i, f (i + 1) ∈ gNxt G (f i) := fun i => by
    rw [gNxt_raw, hraw]
    by_cases c : f i < g.length ∧ gOwn g (f i) = wonI g (f i)
    · rw [if_pos c, (hf i).2 c.2]
      exact List.mem_singleton.2 rfl
    · rw [if_neg c, ← gNxt_raw]
      exact (hf i).1
  have hown : ∀ (σ : Nat → Nat) i, gOwn g (f i) = wonI g (f i) → σ (f i) ∈ gNxt G (f i) → f (i + 1) = σ (f i) := fun σ i ho hm => by
    rw [gNxt_raw, hraw, if_pos ⟨(hw i).1, ho⟩] at hm
    rw [List.mem_singleton.1 hm]
    exact (hf i).2 ho
  refine GoodP.congr_pri (g := G) ?_ fun u => (hpri u).symm
  cases c : wonB G (f 0) with
  | true =>
    have e : wonI g (f 0) = 1 := by rw [← e1 _ h0]; unfold wonI; rw [c]; rfl
    obtain ⟨σ, k⟩ := cert_one hso.owned hso.succ
    rw [e]
    have hmem : ∀ i, f i < G.length ∧ wonB G (f i) = true := fun i => ⟨by rw [hl]; exact (hw i).1, by
      rw [← c]; exact wonI_inj (by rw [e1 _ (hw i).1, e1 _ h0]; exact (hw i).2)⟩
    refine k.win _ ⟨hmem, hgo, fun i ho => hown σ i ?_ (k.own _ (hmem i) ho).1⟩
    rw [← hsn, ho, (hw i).2, e]
  | false =>
    have e : wonI g (f 0) = 0 := by rw [← e1 _ h0]; unfold wonI; rw [c]; rfl
    obtain ⟨σ, k⟩ := cert_zero hso.owned hso.succ
    rw [e]
    have hmem : ∀ i, f i < G.length ∧ wonB G (f i) = false := fun i => ⟨by rw [hl]; exact (hw i).1, by
      rw [← c]; exact wonI_inj (by rw [e1 _ (hw i).1, e1 _ h0]; exact (hw i).2)⟩
    refine k.win _ ⟨hmem, hgo, fun i ho => hown σ i ?_ (k.own _ (hmem i) ho).1⟩
    rw [← hsn, ho, (hw i).2, e]
/-- The moves within a region when player p moves by choices. -/
def EdgC (g : DV) (p : Int) (R : Nat → Prop) (C : Nat → Int) (a b : Nat) : Prop := R a ∧ b ∈ gNxt g a ∧ (gOwn g a = p → b = (C a).toNat)
/-- Choices that are accepted. -/
structure AccC (g : DV) (p : Int) (R : Nat → Prop) (C : Nat → Int) : Prop where
  sub : ∀ v, R v → v < g.length
  own : ∀ v, R v → gOwn g v = p → C v ∈ gRaw g v ∧ R (C v).toNat
  opp : ∀ v, R v → gOwn g v ≠ p → ∀ u, u ∈ gNxt g v → R u
  cyc : ¬ BadC g p (EdgC g p R C)
/-- The strategy is accepted on what its player wins. -/
theorem acc_best (ok : GameOk g) : AccC g p (fun v => v < g.length ∧ wonI g v = p) (fun v => choW g (v : Int)) := by
  refine ⟨fun v h => h.1, fun v h ho => ?_, fun v h ho u hu => ?_, ?_⟩
  · obtain ⟨-, a, b⟩ := choW_at ok h.1 (ho.trans h.2.symm)
    obtain ⟨-, h0, h1⟩ := ok.raw a
    exact ⟨a, by omega, b.trans h.2⟩
  · exact ⟨ok.succ _ _ hu, (opp_at ok h.1 (fun e => ho (e.trans h.2)) hu).trans h.2⟩
  · rintro ⟨k, hk, hb, hr⟩
    obtain ⟨f, e0, h1, h2, h3⟩ := hr.round
    have hg := play_good ok (f := f) (by rw [e0]; exact hk) fun i => ⟨(h1 i).2.1, fun ho => (h1 i).2.2 (ho.trans (h1 i).1.2)⟩
    have hk2 : wonI g (f 0) = p := (h1 0).1.2
    rw [hk2] at hg
    have hbad : GoodP g (gPri g k % 2) f := ⟨gPri g k, rfl, fun N => by
      obtain ⟨t, ht, e⟩ := h3 N
      exact ⟨t, ht, by rw [e]⟩, 0, fun t _ => by
      rcases h2 t with e | e
      · rw [e]; exact Int.le_refl _
      · exact e⟩
    exact hb (hbad.one hg)
/-- What is accepted wins. -/
theorem acc_wins (ok : GameOk g) (hp : p = 0 ∨ p = 1) {R : Nat → Prop} {C : Nat → Int} (h : AccC g p R C) {v : Nat} (hv : R v) : wonI g v = p := by
  have hcert : Cert g (· < g.length) p R (fun v => (C v).toNat) := by
    refine ⟨h.sub, fun v hv ho => ?_, fun v hv ho u hu _ => .inl (h.opp v hv ho u hu), fun f hf => ?_⟩
    · obtain ⟨a, b⟩ := h.own v hv ho
      exact ⟨by rw [gNxt_raw]; exact List.mem_map_of_mem a, .inl b⟩
    · obtain ⟨m, hm, N, hN⟩ := inf_least ok fun i => h.sub _ (hf.mem i)
      refine ⟨m, Classical.byContradiction fun hb => h.cyc ?_, hm, N, hN⟩
      obtain ⟨k, hk, hinf⟩ := inf_one (P := fun k => gPri g k = m) (fun i => h.sub _ (hf.mem i)) hm
      obtain ⟨i, hi, e⟩ := hinf N
      obtain ⟨j, hj, e2⟩ := hinf (i + 1)
      have := RchP.seg (E := EdgC g p R C) (fine := fun b => gPri g k ≤ gPri g b) (f := f) (fun t => ⟨hf.mem t, hf.go t, hf.own t⟩) (i := i) (fun t ht => by rw [hk]; exact hN t (by omega)) (j - i - 1)
      rw [show i + (j - i - 1) + 1 = j by omega, e, e2] at this
      exact ⟨k, by rw [← e]; exact h.sub _ (hf.mem i), by rw [hk]; exact hb, this⟩
  rcases hp with rfl | rfl
  · unfold wonI; rw [cert_won0 ok.owned ok.succ hcert hv]; rfl
  · unfold wonI; rw [cert_won1 ok.owned ok.succ hcert hv]; rfl
end
end Go.Proofs.Ythmhlbkkhaplkaa

namespace Go.Proofs.Ythmhlbkkhaplkaa
set_option linter.unusedVariables false
set_option linter.unusedSimpArgs false

/-- A move within rows. -/
def RowE (NX : Nat → List Int) (a b : Nat) : Prop := (b : Int) ∈ NX a
/-- Where the search from k stands. -/
structure CycS (n : Nat) (NX : Nat → List Int) (PL : List Int) (k : Nat) (S : List Bool) (todo : List Int) (cur : Nat) (rest : List Int) : Prop where
  len : S.length = n
  snd : ∀ b, inS S b = true → RchP (RowE NX) (fun b => atL PL k ≤ atL PL b) k b
  que : ∀ x, x ∈ todo → ∃ v : Nat, x = (v : Int) ∧ v < n ∧ (v = k ∨ inS S v = true)
  don : ∀ a, (a = k ∨ inS S a = true) → (a : Int) ∈ todo ∨ ∀ b, RowE NX a b → atL PL k ≤ atL PL b → inS S b = true ∨ (a = cur ∧ (b : Int) ∈ rest)
  cur : cur = k ∨ inS S cur = true
section
variable {n : Nat} {NX : Nat → List Int} {PL : List Int} {k cur : Nat} {S : List Bool} {todo rest : List Int}
theorem CycS.start (hk : k < n) : CycS n NX PL k (setOf n fun _ => false) [(k : Int)] k [] :=
  ⟨setOf_len _ _, fun b hb => by rw [inS_setOf] at hb; simp at hb, fun x hx => ⟨k, List.mem_singleton.1 hx, hk, .inl rfl⟩, fun a ha => by
    rcases ha with rfl | ha
    · exact .inl (List.mem_singleton.2 rfl)
    · rw [inS_setOf] at ha; simp at ha, .inl rfl⟩
theorem CycS.pop {x : Int} (h : CycS n NX PL k S (x :: todo) cur []) : ∃ v : Nat, x = (v : Int) ∧ v < n ∧ CycS n NX PL k S todo v (NX v) := by
  obtain ⟨v, rfl, hv, hc⟩ := h.que x (List.mem_cons_self ..)
  refine ⟨v, rfl, hv, h.len, h.snd, fun y hy => h.que y (List.mem_cons_of_mem _ hy), fun a ha => ?_, hc⟩
  by_cases e : a = v
  · subst e
    exact .inr fun b hb _ => .inr ⟨rfl, hb⟩
  · rcases h.don a ha with h1 | h1
    · rcases List.mem_cons.1 h1 with h2 | h2
      · omega
      · exact .inl h2
    · refine .inr fun b hb hf => ?_
      rcases h1 b hb hf with h2 | ⟨_, h2⟩
      · exact .inl h2
      · exact absurd h2 (List.not_mem_nil)
theorem CycS.skip {x : Nat} (h : CycS n NX PL k S todo cur ((x : Int) :: rest)) (hx : atL PL x < atL PL k ∨ inS S x = true) : CycS n NX PL k S todo cur rest := by
  refine ⟨h.len, h.snd, h.que, fun a ha => ?_, h.cur⟩
  rcases h.don a ha with h1 | h1
  · exact .inl h1
  · refine .inr fun b hb hf => ?_
    rcases h1 b hb hf with h2 | ⟨e, h2⟩
    · exact .inl h2
    · rcases List.mem_cons.1 h2 with h3 | h3
      · obtain rfl : b = x := by omega
        rcases hx with hx | hx
        · omega
        · exact .inl hx
      · exact .inr ⟨e, h3⟩
theorem CycS.add {x : Nat} (h : CycS n NX PL k S todo cur ((x : Int) :: rest)) (hx : x < n) (hf : atL PL k ≤ atL PL x) (hE : RowE NX cur x) : CycS n NX PL k (S.set x true) (todo ++ [(x : Int)]) cur rest := by
  have hl : x < S.length := by rw [h.len]; exact hx
  have mono : ∀ b, inS S b = true → inS (S.set x true) b = true := fun b hb => by rw [inS_set hl]; split <;> first | rfl | exact hb
  refine ⟨by rw [List.length_set]; exact h.len, fun b hb => ?_, fun y hy => ?_, fun a ha => ?_, h.cur.imp id (mono _)⟩
  · rw [inS_set hl] at hb
    split at hb
    · rename_i e
      subst e
      rcases h.cur with e | hc
      · rw [e] at hE; exact .one hE hf
      · exact .more (h.snd _ hc) hE hf
    · exact h.snd b hb
  · rcases List.mem_append.1 hy with h1 | h1
    · obtain ⟨v, e, hv, hc⟩ := h.que y h1
      exact ⟨v, e, hv, hc.imp id (mono _)⟩
    · exact ⟨x, List.mem_singleton.1 h1, hx, .inr (by rw [inS_set hl, if_pos rfl])⟩
  · by_cases e : a = x
    · subst e; exact .inl (List.mem_append_right _ (List.mem_singleton.2 rfl))
    · have ha2 : a = k ∨ inS S a = true := ha.imp id fun ha => by rw [inS_set hl, if_neg (fun e2 => e e2.symm)] at ha; exact ha
      rcases h.don a ha2 with h1 | h1
      · exact .inl (List.mem_append_left _ h1)
      · refine .inr fun b hb hf => ?_
        rcases h1 b hb hf with h2 | ⟨e2, h2⟩
        · exact .inl (mono _ h2)
        · rcases List.mem_cons.1 h2 with h3 | h3
          · obtain rfl : b = x := by omega
            exact .inl (by rw [inS_set hl, if_pos rfl])
          · exact .inr ⟨e2, h3⟩
theorem CycS.fin (h : CycS n NX PL k S [] cur []) (b : Nat) : inS S b = true ↔ RchP (RowE NX) (fun b => atL PL k ≤ atL PL b) k b := by
  refine ⟨h.snd b, fun hr => ?_⟩
  have step : ∀ a, (a = k ∨ inS S a = true) → ∀ b, RowE NX a b → atL PL k ≤ atL PL b → inS S b = true := fun a ha b hb hf => by
    rcases h.don a ha with h1 | h1
    · exact absurd h1 (List.not_mem_nil)
    · rcases h1 b hb hf with h2 | ⟨_, h2⟩
      · exact h2
      · exact absurd h2 (List.not_mem_nil)
  induction hr with
  | one h1 h2 => exact step k (.inl rfl) _ h1 h2
  | more _ h1 h2 ih => exact step _ (.inr ih) _ h1 h2
/-- A cycle whose least priority is not the player's, in rows. -/
def CycB (n : Nat) (NX : Nat → List Int) (PL : List Int) (p : Int) (m : Nat) : Prop := ∃ k, k < m ∧ atL PL k % 2 ≠ p ∧ RchP (RowE NX) (fun b => atL PL k ≤ atL PL b) k k
theorem CycB.step {p : Int} {m : Nat} (h : ¬ CycB n NX PL p m) (h2 : atL PL m % 2 = p ∨ ¬ RchP (RowE NX) (fun b => atL PL m ≤ atL PL b) m m) : ¬ CycB n NX PL p (m + 1) := by
  rintro ⟨k, hk, a, b⟩
  by_cases e : k = m
  · subst e
    rcases h2 with h2 | h2
    · exact a h2
    · exact h2 b
  · exact h ⟨k, by omega, a, b⟩
end
end Go.Proofs.Ythmhlbkkhaplkaa

namespace Go.Proofs.Ythmhlbkkhaplkaa
set_option linter.unusedVariables false
set_option linter.unusedSimpArgs false

/-- The moves that are left at a vertex. -/
def rowI (g : DV) (p : Int) (C : Nat → Int) (v : Nat) : List Int := if gOwn g v = p then [C v] else gRaw g v
/-- What must hold of a vertex of the region. -/
def VtxOk (g : DV) (p : Int) (rg : List Int) (C : Nat → Int) (v : Nat) : Prop := (gOwn g v = p → C v ∈ gRaw g v) ∧ ∀ y, y ∈ rowI g p C v → y ∈ rg
/-- The rows, as far as the region has been gone through. -/
def nxI (g : DV) (p : Int) (C : Nat → Int) (l : List Int) (v : Nat) : List Int := if (v : Int) ∈ l then rowI g p C v else []
section
variable {g : DV} {p : Int} {rg : List Int} {C : Nat → Int}
theorem rowI_own {v : Nat} (h : gOwn g v = p) : rowI g p C v = [C v] := by unfold rowI; rw [if_pos h]
theorem rowI_opp {v : Nat} (h : gOwn g v ≠ p) : rowI g p C v = gRaw g v := by unfold rowI; rw [if_neg h]
theorem pri_atL (g : DV) (b : Nat) : atL (g.map fun x => x.2.1) b = gPri g b := by unfold atL gPri; rw [List.getElem?_map]
theorem edge_row (ok : GameOk g) (h : ∀ v : Nat, (v : Int) ∈ rg → VtxOk g p rg C v) : RowE (nxI g p C rg) = EdgC g p (fun v => (v : Int) ∈ rg) C := by
  funext a b
  refine propext ?_
  unfold RowE EdgC nxI
  by_cases ha : (a : Int) ∈ rg
  · rw [if_pos ha]
    by_cases ho : gOwn g a = p
    · have hc := (h a ha).1 ho
      obtain ⟨-, h0, -⟩ := ok.raw hc
      rw [rowI_own ho, List.mem_singleton]
      constructor
      · intro e
        have e2 : b = (C a).toNat := by omega
        exact ⟨ha, by rw [gNxt_raw, e2]; exact List.mem_map_of_mem hc, fun _ => e2⟩
      · rintro ⟨_, _, e⟩
        have := e ho
        omega
    · rw [rowI_opp ho, gNxt_raw]
      constructor
      · intro e
        exact ⟨ha, List.mem_map.2 ⟨_, e, Int.toNat_natCast _⟩, fun e => absurd e ho⟩
      · rintro ⟨_, e, _⟩
        obtain ⟨y, hy, rfl⟩ := List.mem_map.1 e
        obtain ⟨-, h0, -⟩ := ok.raw hy
        rw [Int.toNat_of_nonneg h0]
        exact hy
  · rw [if_neg ha]
    exact ⟨fun e => absurd e (List.not_mem_nil), fun e => absurd e.1 ha⟩
theorem bad_cyc (ok : GameOk g) (h : ∀ v : Nat, (v : Int) ∈ rg → VtxOk g p rg C v) : CycB g.length (nxI g p C rg) (g.map fun x => x.2.1) p g.length ↔ BadC g p (EdgC g p (fun v => (v : Int) ∈ rg) C) := by
  unfold CycB BadC
  rw [edge_row ok h]
  simp only [pri_atL]
theorem acc_vtx (ok : GameOk g) (h : AccC g p (fun v => (v : Int) ∈ rg) C) (v : Nat) (hv : (v : Int) ∈ rg) : VtxOk g p rg C v := by
  refine ⟨fun ho => (h.own v hv ho).1, fun y hy => ?_⟩
  by_cases ho : gOwn g v = p
  · obtain ⟨a, b⟩ := h.own v hv ho
    rw [rowI_own ho] at hy
    rw [List.mem_singleton.1 hy]
    obtain ⟨-, h0, -⟩ := ok.raw a
    rw [← Int.toNat_of_nonneg h0]
    exact b
  · rw [rowI_opp ho] at hy
    obtain ⟨-, h0, -⟩ := ok.raw hy
    have := h.opp v hv ho y.toNat (by rw [gNxt_raw]; exact List.mem_map_of_mem hy)
    rw [Int.toNat_of_nonneg h0] at this
    exact this
theorem acc_of (ok : GameOk g) (hinc : Inc g.length rg) (h : ∀ v : Nat, (v : Int) ∈ rg → VtxOk g p rg C v) (hc : ¬ CycB g.length (nxI g p C rg) (g.map fun x => x.2.1) p g.length) : AccC g p (fun v => (v : Int) ∈ rg) C := by
  refine ⟨fun v hv => by have := hinc.1 _ hv; omega, fun v hv ho => ?_, fun v hv ho u hu => ?_, fun hb => hc ((bad_cyc ok h).2 hb)⟩
  · have hc := (h v hv).1 ho
    obtain ⟨-, h0, -⟩ := ok.raw hc
    refine ⟨hc, ?_⟩
    show (((C v).toNat : Nat) : Int) ∈ rg
    rw [Int.toNat_of_nonneg h0]
    exact (h v hv).2 _ (by rw [rowI_own ho]; exact List.mem_singleton.2 rfl)
  · rw [gNxt_raw] at hu
    obtain ⟨y, hy, rfl⟩ := List.mem_map.1 hu
    obtain ⟨-, h0, -⟩ := ok.raw hy
    show ((y.toNat : Nat) : Int) ∈ rg
    rw [Int.toNat_of_nonneg h0]
    exact (h v hv).2 _ (by rw [rowI_opp ho]; exact hy)
theorem acc_no (ok : GameOk g) (h : AccC g p (fun v => (v : Int) ∈ rg) C) : ¬ CycB g.length (nxI g p C rg) (g.map fun x => x.2.1) p g.length := fun hb => h.cyc ((bad_cyc ok (acc_vtx ok h)).1 hb)
/-- One vertex more. -/
theorem nxI_step {k : Nat} {x : Nat} (hx : rg[k]? = some (x : Int)) (v : Nat) : nxI g p C (rg.take (k + 1)) v = if v = x then rowI g p C x else nxI g p C (rg.take k) v := by
  unfold nxI
  rw [List.take_add_one, hx, Option.toList_some]
  by_cases e : v = x
  · subst e
    rw [if_pos rfl, if_pos (List.mem_append_right _ (List.mem_singleton.2 rfl))]
  · rw [if_neg e]
    by_cases c : (v : Int) ∈ rg.take k
    · rw [if_pos c, if_pos (List.mem_append_left _ c)]
    · rw [if_neg c, if_neg]
      intro h
      rcases List.mem_append.1 h with h | h
      · exact c h
      · have := List.mem_singleton.1 h
        omega
end
end Go.Proofs.Ythmhlbkkhaplkaa

namespace Go.Proofs.Ythmhlbkkhaplkaa
open Go.ChangeShapes Go.WideShapes Go.ChangeAt Go.RowKit
set_option linter.unusedVariables false
set_option linter.unusedSimpArgs false

/-- A table of lists in block b, the lists in other blocks. -/
def TabJ (w : World) (b n : Nat) (NX : Nat → List Int) : Prop :=
  b < w.heap.size ∧ ∀ k, k < n → ∃ A m c, w.cell? ⟨b, k, none⟩ = some (.slice A m c) ∧ w.frozen? ⟨b, k, none⟩ = false ∧ SlI w 0 w.heap.size A m (NX k) ∧ m ≤ 1048576 ∧ (0 < m → ∀ q o, A = some ⟨q, o, none⟩ → q ≠ b)
section
variable {w w' : World} {b n : Nat} {NX : Nat → List Int}
theorem TabJ.below {B : Nat} (h : TabJ w b n NX) (hb : Below B w w') (hB : w.heap.size ≤ B) : TabJ w' b n NX := by
  obtain ⟨h1, h2⟩ := h
  refine ⟨by have := hb.size; omega, fun k hk => ?_⟩
  obtain ⟨A, m, c, a1, a2, a4, a3, a5⟩ := h2 k hk
  have hbb : w'.heap[b]? = w.heap[b]? := hb.block b (by omega)
  exact ⟨A, m, c, (World.cell?_of_block (w := w) (by simpa using hbb)).trans a1, (World.frozen?_of_block (w := w) (by simpa using hbb)).trans a2, (a4.below hb (.inr hB)).more (Nat.le_refl _) hb.size, a3, a5⟩
theorem TabJ.set (h : TabJ w b n NX) {k : Nat} (hk : k < n) {A : Option Addr} {m c : Nat} {x : List Int} (hr : SlI w 0 w.heap.size A m x) (hmc : m ≤ 1048576) (hne : 0 < m → ∀ q o, A = some ⟨q, o, none⟩ → q ≠ b) :
    TabJ (w.setCell ⟨b, k, none⟩ (.slice A m c)) b n (fun v => if v = k then x else NX v) := by
  obtain ⟨h1, h2⟩ := h
  have keepR : ∀ (B : Option Addr) (m' : Nat) (y : List Int), SlI w 0 w.heap.size B m' y → (0 < m' → ∀ q o, B = some ⟨q, o, none⟩ → q ≠ b) → SlI (w.setCell ⟨b, k, none⟩ (.slice A m c)) 0 (w.setCell ⟨b, k, none⟩ (.slice A m c)).heap.size B m' y := fun B m' y hl hn => by
    refine ⟨hl.1, fun hm => ?_⟩
    obtain ⟨b2, o2, rfl, q1, q2, q3, q4⟩ := hl.2 hm
    have hk2 : (w.setCell ⟨b, k, none⟩ (.slice A m c)).heap[b2]? = w.heap[b2]? := Below.heap_setCell _ _ _ _ (hn hm b2 o2 rfl)
    refine ⟨b2, o2, rfl, q1, by rw [World.size_setCell]; exact q2, by rw [World.size_setCell]; exact q3, fun i z hz j u hu => ?_⟩
    obtain ⟨r1, r2⟩ := q4 i z hz j u hu
    exact ⟨(World.cell?_of_block (w := w) (by simpa using hk2)).trans r1, (World.frozen?_of_block (w := w) (by simpa using hk2)).trans r2⟩
  refine ⟨by rw [World.size_setCell]; exact h1, fun j hj => ?_⟩
  obtain ⟨A2, m2, c2, a1, a2, a4, a3, a5⟩ := h2 j hj
  by_cases e : j = k
  · subst e
    exact ⟨A, m, c, World.cell?_setCell_same _ _ _ a1, by rw [World.frozen?_setCell]; exact a2, by dsimp only; rw [if_pos rfl]; exact keepR _ _ _ hr hne, hmc, hne⟩
  · exact ⟨A2, m2, c2, (World.cell?_setCell_other _ _ _ _ (by intro e2; injection e2 with _ e2 _; omega)).trans a1, by rw [World.frozen?_setCell]; exact a2, by dsimp only; rw [if_neg e]; exact keepR _ _ _ a4 a5, a3, a5⟩
theorem TabJ.made (w : World) (n : Nat) : TabJ (w.alloc (.cells (madeCells #[.slice none 0 0] n) 26)) w.heap.size n (fun _ => []) := by
  have hg := heap_alloc_new w (.cells (madeCells #[.slice none 0 0] n) 26)
  refine ⟨by rw [World.size_alloc]; omega, fun k hk => ⟨none, 0, 0, (cell_of_row _ _ k _ _ (0, 0) hg).trans ?_, frozen_of_row _ _ k _ _ hg, Sl.nil_, Nat.zero_le _, fun h => absurd h (Nat.lt_irrefl _)⟩⟩
  simp [madeCells, hk, Nat.mod_one]
end

/-- What the search writes. -/
structure MemC (W : World) (bs n : Nat) (S : List Bool) (A : Option Addr) (q c : Nat) (todo : List Int) : Prop where
  out : SlB W bs (bs + 1) (some ⟨bs, 0, none⟩) n S
  que : OwnQ W (bs + 1) A q c todo
  sz : bs + 1 ≤ W.heap.size
section
variable {W W' : World} {bs n q c : Nat} {S : List Bool} {A : Option Addr} {todo : List Int}
theorem MemC.cell (h : MemC W bs n S A q c todo) {k : Nat} (hk : k < n) : W.cell? ⟨bs, k, none⟩ = some (.bool (inS S k)) ∧ W.frozen? ⟨bs, k, none⟩ = false := by
  have := SlB.cell h.out hk
  rw [Nat.zero_add] at this
  exact ⟨this.1, this.2.1⟩
theorem MemC.put (h : MemC W bs n S A q c todo) {k : Nat} (hk : k < n) : MemC (W.setCell ⟨bs, k, none⟩ (.bool true)) bs n (S.set k true) A q c todo := by
  have := h.out.put hk true
  rw [Nat.zero_add] at this
  exact ⟨this, h.que.keep fun g hg _ => Below.heap_setCell _ _ _ _ (by show g ≠ bs; omega), by rw [World.size_setCell]; exact h.sz⟩
theorem MemC.alloc (h : MemC W bs n S A q c todo) (o : Obj) : MemC (W.alloc o) bs n S A q c todo :=
  ⟨Sl.keep h.out (by simp) fun b _ _ hb => Below.heap_alloc _ _ _ hb, h.que.alloc o, by have := h.sz; simp; omega⟩
theorem MemC.app (h : MemC W bs n S A q c todo) {A' : Option Addr} {q' c' : Nat} {todo' : List Int} (hq : OwnQ W' (bs + 1) A' q' c' todo') (hg : W.grownBy W' (Value.slice A q c).ownBlock) : MemC W' bs n S A' q' c' todo' := by
  have h3 := h.sz
  have hne : ∀ b, b < bs + 1 → some b ≠ (Value.slice A q c).ownBlock := fun b hb e => by
    have := (h.que.lt b e.symm).1
    omega
  exact ⟨Sl.keep h.out hg.size fun b hb1 hb2 hb3 => hg.block b hb3 (hne b (by omega)), hq, Nat.le_trans h3 hg.size⟩
theorem MemC.cut {x : Int} (h : MemC W bs n S A q c (x :: todo)) : MemC W bs n S (cutA A 1 c 1) (q - 1) (c - 1) todo := ⟨h.out, h.que.cut, h.sz⟩
/-- A new set, and a queue of one. -/
theorem MemC.start (w : World) (n k : Nat) : MemC ((w.alloc (.cells (madeCells #[.bool false] n) 4)).alloc (.cells #[.int .i64 (k : Int)] 2)) w.heap.size n (setOf n fun _ => false) (some ⟨w.heap.size + 1, 0, none⟩) 1 1 [(k : Int)] := by
  refine ⟨Sl.keep (SlB.made w n) (by simp) fun b _ _ hb => Below.heap_alloc _ _ _ hb, ⟨rfl, .inr ⟨w.heap.size + 1, 0, #[.int .i64 (k : Int)], rfl, Nat.le_refl _, ?_, Nat.le_refl _, by unfold maxLen; omega, Nat.le_refl _, fun i x hx => ?_⟩⟩, by simp⟩
  · have := heap_alloc_new (w.alloc (.cells (madeCells #[.bool false] n) 4)) (.cells #[.int .i64 (k : Int)] 2)
    rw [World.size_alloc] at this
    exact this
  · have hi : i < 1 := (List.getElem?_eq_some_iff.1 hx).1
    obtain rfl : i = 0 := by omega
    simp at hx ⊢
    exact hx
end

/-- A bool that answers a question. -/
def AnsB (Q : Prop) (W : World) (e : Ending) (W' : World) : Prop := ∃ b : Bool, e = .returned (.bool b) ∧ (b = true ↔ Q) ∧ Below W.heap.size W W'
set_option maxHeartbeats 4000000 in
set_option maxRecDepth 100000 in
theorem badCycle_calls (bt n c : Nat) (NX : Nat → List Int) (Ap : Option Addr) (cp : Nat) (PL : List Int) (p : Int) (w : World) (hT : TabJ w bt n NX) (hn : n ≤ 120) (hP : SlI w 0 w.heap.size Ap n PL) (hP0 : ∀ k, k < n → 0 ≤ atL PL k) (hin : ∀ k, k < n → ∀ x, x ∈ NX k → 0 ≤ x ∧ x < n) :
    Calls Try.prog 40 #[.slice (some ⟨bt, 0, none⟩) n c, .slice Ap n cp, .int .i64 p] w (AnsB (CycB n NX PL p n) w) := by
  have hmk := run_make_bool n (by omega)
  have hbt := hT.1
  have hlen := hide hP.len
  replace hT := hide hT
  replace hP := hide hP
  replace hP0 := hide hP0
  replace hin := hide hin
  go_enter Try.func40, Try.ntmps40
  go_wp2_with fail
  go_loopw [16] (fun i wr => ∃ k : Nat, k ≤ n ∧ i = .int .i64 (k : Nat) ∧ Hid (¬ CycB n NX PL p k) ∧ Hid (Below w.heap.size w wr)) (fun i _ => n - (intOf i).toNat)
  case atStart => exact ⟨0, Nat.zero_le _, rfl, (fun ⟨k, hk, _⟩ => absurd hk (Nat.not_lt_zero _)), Below.refl _ _⟩
  case round =>
    obtain ⟨k, hk, rfl, hno, hB⟩ := hrel
    by_cases hlt : k < n
    · have k0 : (0 : Int) ≤ (k : Int) := by omega
      have k1 : (k : Int) < (n : Int) := by omega
      have hPr := hide ((hP.out.below hB.out (.inl (Nat.le_refl _))).more (Nat.le_refl _) hB.out.size)
      obtain ⟨bp, op, pk, rfl, -, -, hbp, hpk, cpk, -⟩ := SlI.get hPr.out hlt
      have hpk2 : atL PL k = pk := atL_get hpk
      have hpk0 : 0 ≤ pk := by have := hP0.out k hlt; omega
      clear hpk
      by_cases hpar : pk % 2 = p
      · have e1 : (pk % 2 == p) = true := by rw [beq_iff_eq]; exact hpar
        have hno2 := hide (CycB.step hno.out (.inl (by rw [hpk2]; exact hpar)))
        clear hno hpar hpk2
        go_wp2_with fail
        go_roundw
        case rel => exact ⟨k + 1, by omega, by go_num, hno2.out, hB.out⟩
        case measure => simp [intOf]; omega
      · have e1 : (pk % 2 == p) = false := by rw [beq_eq_false_iff_ne]; exact hpar
        have hparN := hide hpar
        have hmem := hide (MemC.start wr n k)
        have hC0 : Hid (CycS n NX PL k (setOf n fun _ => false) [(k : Int)] k []) := CycS.start hlt
        have hB2 := hide ((hB.out.alloc hB.out.size (.cells (madeCells #[.bool false] n) 4)).alloc (hB.out.alloc hB.out.size _).size (.cells #[.int .i64 (k : Int)] 2))
        obtain ⟨wS, hwS⟩ : ∃ wS, wS = (wr.alloc (.cells (madeCells #[.bool false] n) 4)).alloc (.cells #[.int .i64 (k : Int)] 2) := ⟨_, rfl⟩
        rw [← hwS] at hmem hB2
        obtain ⟨bs, hbs⟩ : ∃ bs, bs = wr.heap.size := ⟨_, rfl⟩
        have hbsw : w.heap.size ≤ bs := by rw [hbs]; exact hB.out.size
        rw [← hbs] at hmem
        have hPs : SlI wr 0 wr.heap.size (some ⟨bp, op, none⟩) n PL := hPr.out
        clear hB hPr
        go_upto_region 7 with fail
        rw [← hwS, ← hbs]
        replace hwS := hide hwS
        replace hbs := hide hbs
        obtain ⟨wK, rfl⟩ : ∃ wK : World, wK = wr := ⟨_, rfl⟩
        have hS0 : n - cntT (setOf n fun _ => false) + 1 ≤ n + 1 := by omega
        have hc0 : 1 ≤ 1 + cntT (setOf n fun _ => false) := by omega
        generalize (setOf n fun _ => false) = S0 at *
        clear cpk hpar e1
        go_loopg [10] (n + 1) (fun N v wr => ∃ (S : List Bool) (todo : List Int) (cur : Nat) (A : Option Addr) (q d : Nat), v = .slice A q d ∧ Hid (MemC wr bs n S A q d todo) ∧ Hid (CycS n NX PL k S todo cur []) ∧ q ≤ 1 + cntT S ∧ n - cntT S + q ≤ N ∧ Hid (Below w.heap.size w wr))
        case atStart => exact ⟨S0, _, k, _, 1, 1, rfl, hmem.out, hC0.out, hc0, hS0, hB2.out⟩
        case round =>
          clear hmem hB2 hS0 hc0 hC0
          obtain ⟨S, todo, cur, A, q, d, rfl, hM, hC, hq, hN, hB⟩ := hrel
          cases todo with
          | nil =>
            have hq0 : q = 0 := hM.out.que.len.symm
            subst hq0
            have hfin := hC.out.fin k
            obtain ⟨y0, z0⟩ := hM.out.cell hlt
            by_cases hs : inS S k = true
            · have hyes : Hid (CycB n NX PL p n) := ⟨k, hlt, by rw [hpk2]; exact hparN.out, hfin.1 hs⟩
              rw [hs] at y0
              clear hfin hs hno hC hM
              go_wp2_with fail
              go_ret
              exact ⟨true, rfl, ⟨fun _ => hyes.out, fun _ => rfl⟩, hB.out⟩
            · have hno2 : Hid (¬ CycB n NX PL p (k + 1)) := CycB.step hno.out (.inr fun h => hs (hfin.2 h))
              rw [Bool.eq_false_iff.2 hs] at y0
              clear hfin hs hno hC hM
              go_wp2_with fail
              go_roundw
              case rel => exact ⟨k + 1, by omega, by go_num, hno2.out, hB.out⟩
              case measure => simp [intOf]; omega
          | cons x todo =>
            obtain ⟨v, rfl, hv, hC2⟩ := hC.out.pop
            replace hC2 := hide hC2
            obtain ⟨qg, qo, rfl, e0, hq0, hqd⟩ := hM.out.que.head
            have hcut : ∀ W : World, (Instr.slice 26 (.slice (some ⟨qg, qo, none⟩) q d) (some (.int .i64 1)) none none).run Try.prog W = .ok (.slice (cutA (some ⟨qg, qo, none⟩) 1 d 1) (q - 1) (d - 1)) W := fun W => run_cut elem_int64 (some ⟨qg, qo, none⟩) q d 1 (by omega) W
            have hM2 := hide hM.out.cut
            obtain ⟨Ah, nh, ch, r00, -, hrl, hnh, -⟩ := hT.out.2 v hv
            have r0 := (hB.out.cell (p := ⟨bt, v, none⟩) hbt).trans r00
            clear r00
            have v0 : (0 : Int) ≤ (v : Int) := by omega
            have v1 : (v : Int) < (n : Int) := by omega
            have hrll := hide hrl.len
            replace hrl := hide hrl
            have hinv := hide (hin.out v hv)
            obtain ⟨N2, rfl⟩ : ∃ N2, gk = N2 + 1 := ⟨gk - 1, by omega⟩
            have hN2 : Hid (n - cntT S + (q - 1) ≤ N2) := by show _ ≤ _; omega
            have hq2 : q - 1 ≤ 1 + cntT S := by omega
            have hSn : Hid (cntT S ≤ n) := by show _ ≤ _; have := cntT_le S; rw [hC.out.len] at this; exact this
            clear hM hC hN hq hPs
            obtain ⟨wo, rfl⟩ : ∃ wo : World, wo = wr := ⟨_, rfl⟩
            generalize cutA (some ⟨qg, qo, none⟩) 1 d 1 = AC at *
            go_wp2_with fail
            go_loopw [10, 43] (fun s i wr => ∃ (j : Nat) (S : List Bool) (todo : List Int) (A : Option Addr) (q d : Nat), j ≤ nh ∧ i = .int .i64 (j : Nat) ∧ s = .slice A q d ∧ Hid (MemC wr bs n S A q d todo) ∧ Hid (CycS n NX PL k S todo v ((NX v).drop j)) ∧ q ≤ 1 + cntT S ∧ Hid (n - cntT S + q ≤ N2) ∧ Hid (Below w.heap.size w wr)) (fun _ i _ => nh - (intOf i).toNat)
            case atStart => exact ⟨0, S, todo, AC, _, _, Nat.zero_le _, rfl, rfl, hM2.out, (by rw [List.drop_zero]; exact hC2.out), hq2, hN2.out, hB.out⟩
            case round =>
              clear hM2 hC2 hB e0 r0 hcut hq2 hN2 hSn
              obtain ⟨j, S, todo, A, q, d, hj, rfl, rfl, hM, hC, hq, hN, hB⟩ := hrel
              by_cases hltj : j < nh
              · have j0 : (0 : Int) ≤ (j : Int) := by omega
                have j1 : (j : Int) < (nh : Int) := by omega
                obtain ⟨bh, oh, xI, rfl, -, -, -, hx, cx, -⟩ := SlI.get (Sl.below hrl.out hB.out (.inl (Nat.le_refl _))) hltj
                obtain ⟨hx0, hx1⟩ := hinv.out xI (List.mem_of_getElem? hx)
                obtain ⟨u, rfl⟩ : ∃ u : Nat, xI = (u : Int) := ⟨xI.toNat, by omega⟩
                have hun : u < n := by omega
                have hC1 : CycS n NX PL k S todo v ((u : Int) :: (NX v).drop (j + 1)) := by
                  have := hC.out
                  rw [drop_at hx] at this
                  exact this
                have hEv : RowE NX v u := List.mem_of_getElem? hx
                obtain ⟨bp', op', pu, eP, -, -, -, hpu, cpu, -⟩ := SlI.get ((hP.out.below hB.out (.inl (Nat.le_refl _))).more (Nat.le_refl _) hB.out.size) hun
                cases eP
                have hpu2 : atL PL u = pu := atL_get hpu
                obtain ⟨y0, z0⟩ := hM.out.cell hun
                have hSn : cntT S ≤ n := by have := cntT_le S; rw [hC1.len] at this; exact this
                clear hx hpu hC
                by_cases hlow : pu < pk
                · have hnx := hide (hC1.skip (.inl (by rw [hpu2, hpk2]; exact hlow)))
                  clear hC1 hEv hpu2
                  go_wp2_with fail
                  go_roundw
                  case rel => exact ⟨j + 1, S, todo, A, q, d, by omega, by go_num, rfl, hM.out, hnx.out, hq, hN.out, hB.out⟩
                  case measure => simp [intOf]; omega
                · by_cases hs : inS S u = true
                  · have hnx := hide (hC1.skip (.inr hs))
                    rw [hs] at y0
                    clear hC1 hEv hpu2 hs
                    go_wp2_with fail
                    go_roundw
                    case rel => exact ⟨j + 1, S, todo, A, q, d, by omega, by go_num, rfl, hM.out, hnx.out, hq, hN.out, hB.out⟩
                    case measure => simp [intOf]; omega
                  · have hs2 := Bool.eq_false_iff.2 hs
                    have hnx := hide (hC1.add hun (by rw [hpu2, hpk2]; omega) hEv)
                    have hcnt := cntT_set (s := S) (v := u) (by rw [hC1.len]; exact hun) hs2
                    have hMa := hide ((hM.out.put hun).alloc (.cells #[.int .i64 (u : Int)] 2))
                    have hbp := (hB.out.setCell (p := ⟨bs, u, none⟩) hbsw (.bool true)).alloc (by rw [World.size_setCell]; exact hB.out.size) (.cells #[.int .i64 (u : Int)] 2)
                    have hcell0 := cell_one_new (wr.setCell ⟨bs, u, none⟩ (.bool true)) (.int .i64 (u : Int)) 2 0 _ rfl
                    rw [addr_add, Nat.zero_add, World.size_setCell] at hcell0
                    replace hcell0 := hide hcell0
                    replace hbp := hide hbp
                    have hcnt2 : cntT (S.set u true) ≤ n := by have := cntT_le (S.set u true); rw [List.length_set, hC1.len] at this; exact this
                    have hN3 : Hid (n - cntT (S.set u true) + (q + 1) ≤ N2) := by show _ ≤ _; have := hN.out; omega
                    have hq3 : q + 1 ≤ 1 + cntT (S.set u true) := by omega
                    have hszm := hM.out.sz
                    have hzq : bs + 1 ≤ ((wr.setCell ⟨bs, u, none⟩ (.bool true)).alloc (.cells #[.int .i64 (u : Int)] 2)).heap.size := hMa.out.sz
                    rw [hs2] at y0
                    clear hC1 hEv hpu2 hs hs2 hcnt hcnt2
                    go_wp2_with (first | (at_builtin; (with_reducible refine wpList_appQ rfl (.tmp 62) (.tmp 64) rfl rfl hMa.out.que ⟨wr.heap.size, 0, none⟩ 1 (u : Int) rfl hcell0.out ?k1 hzq ?_); rotate_right; intro A5 c5 w5 hown5 hgr5 hb5 _))
                    case k1 => omega
                    have hM5 := hide (hMa.out.app hown5 hgr5)
                    have hb6 := hide (hbp.out.trans (hb5.mono (by omega)))
                    clear hown5 hgr5 hb5
                    go_roundw
                    case rel => exact ⟨j + 1, _, _, A5, _, c5, by omega, by go_num, rfl, hM5.out, hnx.out, hq3, hN3.out, hb6.out⟩
                    case measure => simp [intOf]; omega
              · obtain rfl : j = nh := by omega
                have j1 : ¬ (j : Int) < (j : Int) := by omega
                have hC3 : Hid (CycS n NX PL k S todo v []) := by
                  have := hC.out
                  rw [List.drop_eq_nil_of_le (by rw [hrll.out]; exact Nat.le_refl _)] at this
                  exact this
                have hN4 := hN.out
                clear hC
                go_wp2_with fail
                go_roundg N2
                case measure => omega
                case rel => exact ⟨S, todo, v, A, q, d, rfl, hM.out, hC3.out, hq, hN4, hB.out⟩
    · obtain rfl : k = n := by omega
      have k1 : ¬ (k : Int) < (k : Int) := by omega
      go_wp2_with fail
      go_ret
      exact ⟨false, rfl, ⟨fun h => (by cases h), fun h => absurd h hno.out⟩, hB.out⟩

end Go.Proofs.Ythmhlbkkhaplkaa

namespace Go.Proofs.Ythmhlbkkhaplkaa
open Go.ChangeShapes Go.WideShapes Go.ChangeAt Go.RowKit
set_option linter.unusedVariables false
set_option linter.unusedSimpArgs false

theorem isW1_calls (br : Nat) (A : Option Addr) (n c : Nat) (rg : List Int) (x : Int) (w : World) (lo hi : Nat) (hb : w.cell? ⟨br, 0, none⟩ = some (.slice A n c)) (h : SlI w lo hi A n rg) (hn : n ≤ 1048576) :
    Calls Try.prog 39 (#[.int .i64 x] ++ #[.pointer (some ⟨br, 0, none⟩)]) w (Says (!decide (x ∈ rg)) w) := by
  have q := hide (containsX_calls x A n c rg w lo hi h hn)
  clear h
  generalize decide (x ∈ rg) = v at *
  show Calls _ _ #[.int .i64 x, .pointer (some ⟨br, 0, none⟩)] _ _
  go_enter Try.func39, Try.ntmps39
  go_wp2_with (first | (go_at_call 38; (with_reducible refine q.out.mono ?_); rintro e w' ⟨rfl, rfl⟩))
  go_ret
  exact ⟨rfl, Below.refl _ _⟩

set_option maxRecDepth 100000 in
set_option maxHeartbeats 4000000 in
theorem IsWinning_calls (G : Option Addr) (n d : Nat) (g : DV) (p : Int) (Ar : Option Addr) (nr cr : Nat) (rg : List Int) (Ax : Option Addr) (cx : Nat) (ch : List Int) (w : World) (hg : GameAt w G n g) (ok : GameOk g) (hp : p = 0 ∨ p = 1)
    (hr : SlI w 0 w.heap.size Ar nr rg) (hnr : nr ≤ 120) (hinc : Inc n rg) (hx : SlI w 0 w.heap.size Ax n ch) :
    Calls Try.prog 12 #[.slice G n d, .int .i64 p, .slice Ar nr cr, .slice Ax n cx] w (AnsB (AccC g p (fun v => (v : Int) ∈ rg) (fun v => atL ch v)) w) := by
  have hgl := hg.len
  have hn1 : 0 < n ∧ n ≤ 120 := by have := ok.1; omega
  obtain ⟨bg, og, rfl, hbg⟩ := hg.addr hn1.1
  have hB0 := hide ((Below.refl w.heap.size w).alloc (Nat.le_refl _) (.cells #[.slice Ar nr cr] 26))
  have hbx6 := heap_alloc_new w (.cells #[.slice Ar nr cr] 26)
  have q2 := hide (fun W => playerOk_calls p W hp)
  have hmk := run_make_rows n (by omega)
  have hE := hide elem_int64
  obtain ⟨wA, hwA⟩ : ∃ wA, wA = w.alloc (.cells #[.slice Ar nr cr] 26) := ⟨_, rfl⟩
  rw [← hwA] at hB0 hbx6
  have hbl6 : w.heap.size < wA.heap.size := by rw [hwA]; simp
  have q1 := hide (gameAt_valid (c := d) (hg.below hB0.out (Nat.le_refl _)) ok)
  have hdec : decide (Inc (n : Int) rg) = true := decide_eq_true hinc
  have q3 := fun W (hW : Below wA.heap.size wA W) => increasing_calls Ar nr cr rg n (by omega) W _ _ (hr.below (hB0.out.trans (hW.mono hB0.out.size)) (.inl (Nat.le_refl _))) (by unfold maxLen; omega)
  rw [hdec] at q3
  replace q3 := hide q3
  have h6 := hide (fun W (hW : Below wA.heap.size wA W) => ((cell_of_row _ _ 0 _ _ (0, 0) ((hW.block w.heap.size hbl6).trans hbx6)).trans rfl : W.cell? ⟨w.heap.size, 0, none⟩ = some (.slice Ar nr cr)))
  have hcl := hide (fun (x : Int) (W : World) (hW : Below wA.heap.size wA W) => isW1_calls w.heap.size Ar nr cr rg x W _ _ (h6.out W hW) (hr.below (hB0.out.trans (hW.mono hB0.out.size)) (.inl (Nat.le_refl _))) (by omega))
  replace hg := hide hg
  replace ok := hide ok
  replace hgl := hide hgl
  replace hr := hide hr
  have hrl := hide hr.out.len
  replace hinc := hide hinc
  replace hx := hide hx
  clear hbx6 hdec
  obtain ⟨hn0, hn7⟩ := hn1
  go_enter Try.func12, Try.ntmps12
  go_upto_region 1 with fail
  rw [← hwA]
  replace hwA := hide hwA
  have y6 := h6.out wA (Below.refl _ _)
  go_wp2_with fail
  refine q1.out.mono ?_
  rintro e w1 ⟨rfl, hb1⟩
  have y6 := h6.out w1 hb1
  have hz1 := hb1.size
  have q3' := hide (q3.out w1 hb1)
  replace hb1 := hide hb1
  clear q1 q3
  have hT0 := hide (TabJ.made w1 n)
  have hBT := hide (hb1.out.alloc hz1 (.cells (madeCells #[.slice none 0 0] n) 26))
  obtain ⟨wT, hwT⟩ : ∃ wT, wT = w1.alloc (.cells (madeCells #[.slice none 0 0] n) 26) := ⟨_, rfl⟩
  rw [← hwT] at hT0 hBT
  obtain ⟨bt, hbt⟩ : ∃ bt, bt = w1.heap.size := ⟨_, rfl⟩
  rw [← hbt] at hT0
  have hbtA : wA.heap.size ≤ bt := by rw [hbt]; exact hz1
  have hbtw : w.heap.size < bt := by omega
  go_upto_region 4 with (first | (go_at_call 26; (with_reducible refine (q2.out _).mono ?_); rintro e w' ⟨rfl, rfl⟩) | (go_at_call 37; (with_reducible refine q3'.out.mono ?_); rintro e w' ⟨rfl, rfl⟩))
  rw [← hwT, ← hbt]
  have y6 := h6.out wT hBT.out
  replace hwT := hide hwT
  replace hbt := hide hbt
  have hzT := hBT.out.size
  clear q2 q3' hb1
  go_wp2_with fail
  go_loopw [42] (fun i wr => ∃ t : Nat, t ≤ nr ∧ i = .int .i64 (t : Nat) ∧ Hid (TabJ wr bt n (nxI g p (fun v => atL ch v) (rg.take t))) ∧ Hid (∀ v : Nat, (v : Int) ∈ rg.take t → VtxOk g p rg (fun v => atL ch v) v) ∧ Hid (Below wA.heap.size wA wr)) (fun i _ => nr - (intOf i).toNat)
  case atStart =>
    refine ⟨0, Nat.zero_le _, rfl, ?_, fun v hv => ?_, hBT.out⟩
    · have : nxI g p (fun v => atL ch v) (rg.take 0) = fun _ => [] := by funext v; unfold nxI; rw [List.take_zero, if_neg (List.not_mem_nil)]
      show TabJ _ _ _ _
      rw [this]
      exact hT0.out
    · rw [List.take_zero] at hv; exact absurd hv (List.not_mem_nil)
  case round =>
    clear hT0 hBT
    obtain ⟨t, ht, rfl, hT, hV, hB⟩ := hrel
    by_cases hlt : t < nr
    · have t0 : (0 : Int) ≤ (t : Int) := by omega
      have t1 : (t : Int) < (nr : Int) := by omega
      have hBw := hide (hB0.out.trans (hB.out.mono hB0.out.size))
      obtain ⟨br, ore, kI, rfl, -, -, -, hk, ck, -⟩ := SlI.get (hr.out.below hBw.out (.inl (Nat.le_refl _))) hlt
      obtain ⟨k0, k1⟩ := hinc.out.1 kI (List.mem_of_getElem? hk)
      obtain ⟨k, rfl⟩ : ∃ k : Nat, kI = (k : Int) := ⟨kI.toNat, by omega⟩
      have hkn : k < n := by omega
      obtain ⟨o, pr, l, Ah, nh, chh, hxg, a0, a1, a2, hs, hnh, hob, hprb, hinc2⟩ := hg.out.cell ok.out hkn
      have hgo : gOwn g k = o := gOwn_at hxg
      have hgr : gRaw g k = l := gRaw_at hxg
      have hne : 0 < nh → ∀ q off, Ah = some ⟨q, off, none⟩ → q ≠ bt := fun h0 q off e => by
        obtain ⟨b', o', e', -, -, g3, -⟩ := hs.at_ h0
        rw [e] at e'
        cases e'
        omega
      have hstep := hide (fun v => nxI_step (g := g) (p := p) (C := fun v => atL ch v) hk v)
      obtain ⟨Ao, mo, co, ao, fo, -⟩ := hT.out.2 k hkn
      have hsr := (hs.below hBw.out (.inl (Nat.le_refl _))).more (Nat.le_refl _) hBw.out.size
      have hTs := hT.out.set hkn (c := chh) hsr hnh hne
      have hBs := hB.out.setCell (p := ⟨bt, k, none⟩) hbtA (.slice Ah nh chh)
      have yS := World.cell?_setCell_same wr ⟨bt, k, none⟩ (.slice Ah nh chh) ao
      obtain ⟨wS, hwS⟩ : ∃ wS, wS = wr.setCell ⟨bt, k, none⟩ (.slice Ah nh chh) := ⟨_, rfl⟩
      have c0 := (hBw.out.cell (p := ⟨bg, og + k * 3, none⟩) hbg).trans a0
      have c2 := (hBw.out.cell (p := ⟨bg, og + k * 3 + 2, none⟩) hbg).trans a2
      go_upto_region 8 with fail
      rw [← hwS]
      have hBS := hB.out.setCell (p := ⟨bt, k, none⟩) hbtA (.slice Ah nh chh)
      rw [← hwS] at yS hTs hBS
      have hBSw := hB0.out.trans (hBS.mono hB0.out.size)
      have hsS := (hs.below hBSw (.inl (Nat.le_refl _))).more (Nat.le_refl _) hBSw.size
      have d0 := (hBSw.cell (p := ⟨bg, og + k * 3, none⟩) hbg).trans a0
      have d2 := (hBSw.cell (p := ⟨bg, og + k * 3 + 2, none⟩) hbg).trans a2
      have hkr : (k : Int) ∈ rg := List.mem_of_getElem? hk
      have hzS := hBS.size
      have fS : wS.frozen? ⟨bt, k, none⟩ = false := by rw [hwS, World.frozen?_setCell]; exact fo
      have hbtS : bt < wS.heap.size := hTs.1
      replace hwS := hide hwS
      have hVs : VtxOk g p rg (fun v => atL ch v) k → ∀ v : Nat, (v : Int) ∈ rg.take (t + 1) → VtxOk g p rg (fun v => atL ch v) v := fun h v hv => by
        rw [List.take_add_one, hk, Option.toList_some] at hv
        rcases List.mem_append.1 hv with h1 | h1
        · exact hV.out v h1
        · have := List.mem_singleton.1 h1
          obtain rfl : v = k := by omega
          exact h
      have hnoV : ¬ VtxOk g p rg (fun v => atL ch v) k → ¬ AccC g p (fun v => (v : Int) ∈ rg) (fun v => atL ch v) := fun h1 h2 => h1 (acc_vtx ok.out h2 k hkr)
      replace hV := hide hV
      clear a0 a2 ao fo c0 c2 hsr ck
      by_cases hop : o = p
      · subst hop
        have hcell := SlI.get ((hx.out.below hBSw (.inl (Nat.le_refl _)))) hkn
        obtain ⟨bx, ox, cv, rfl, -, -, hbxl, hcv, ccv, -⟩ := hcell
        have hcv2 : atL ch k = cv := atL_get hcv
        have qc := fun N => containsX_calls cv Ah nh chh l (wS.drewN N) 0 wS.heap.size hsS hnh
        by_cases hmem : cv ∈ l
        · have e1 : decide (cv ∈ l) = true := decide_eq_true hmem
          rw [e1] at qc
          replace qc := hide qc
          have hrow : rowI g o (fun v => atL ch v) k = [cv] := by rw [rowI_own hgo, hcv2]
          have hown : gOwn g k = o → atL ch k ∈ gRaw g k := fun _ => by rw [hcv2, hgr]; exact hmem
          have hT3 := fun N => (hTs.below (below_drewN wS N) (Nat.le_refl _)).below ((Below.refl (wS.drewN N).heap.size (wS.drewN N)).alloc (Nat.le_refl _) (.cells #[.int .i64 cv] 2)) (Nat.le_refl _)
          have hT4 := fun N => (hT3 N).set hkn (A := some ⟨(wS.drewN N).heap.size, 0, none⟩) (m := 1) (c := 1) (x := [cv]) ((Sl.lit1' (wS.drewN N) 2 cv _ rfl 1 _ rfl).more (Nat.le_refl _) (by rw [World.size_alloc]; exact Nat.le_refl _)) (by omega) (fun _ q off e => by
            injection e with e
            injection e with e
            have : (wS.drewN N).heap.size = wS.heap.size := rfl
            omega)
          have hBL := fun N => ((hBS.trans ((below_drewN wS N).mono hBS.size)).alloc hBS.size (.cells #[.int .i64 cv] 2)).setCell (p := ⟨bt, k, none⟩) hbtA (.slice (some ⟨(wS.drewN N).heap.size, 0, none⟩) 1 1)
          have hcr : Hid (cv ∈ rg → VtxOk g o rg (fun v => atL ch v) k) := fun h => ⟨hown, fun y hy => by rw [hrow] at hy; rw [List.mem_singleton.1 hy]; exact h⟩
          have hcr2 : Hid (cv ∉ rg → ¬ VtxOk g o rg (fun v => atL ch v) k) := fun h h2 => h (h2.2 cv (by rw [hrow]; exact List.mem_singleton.2 rfl))
          have e2 : Hid (nxI g o (fun v => atL ch v) (rg.take (t + 1)) = fun v => if v = k then [cv] else if v = k then l else nxI g o (fun v => atL ch v) (rg.take t) v) := by
            show _ = _
            funext v; rw [hstep.out v, hrow]
            by_cases c : v = k
            · rw [if_pos c, if_pos c]
            · rw [if_neg c, if_neg c, if_neg c]
          replace hT4 := hide hT4
          replace hBL := hide hBL
          replace hVs := hide hVs
          replace hnoV := hide hnoV
          replace hBSw := hide hBSw
          clear hT3 hTs hsS hs hxg hgo hgr hne hinc2 hBS hk hkr hcv hcv2 hrow hown e1 hmem
          go_wp2_with fail
          go_quiet ((go_at_call 38; with_reducible exact same_quiet (qc.out _)))
          go_upto_region 11 with fail
          obtain ⟨wq, hwq⟩ : ∃ wq, wq = wS.drewN nq := ⟨_, rfl⟩
          have yq : wq.cell? ⟨bt, k, none⟩ = some (.slice Ah nh chh) := by rw [hwq]; exact yS
          have fq : wq.frozen? ⟨bt, k, none⟩ = false := by rw [hwq]; exact fS
          have cq : wq.cell? ⟨bx, ox + k, none⟩ = some (.int .i64 cv) := by rw [hwq]; exact ccv
          have dq0 : wq.cell? ⟨bg, og + k * 3, none⟩ = some (.int .i64 o) := by rw [hwq]; exact d0
          have hzq : wS.heap.size ≤ wq.heap.size := by rw [hwq]; exact Nat.le_refl _
          have hbtq : bt < wq.heap.size := by omega
          have hbgq : bg < wq.heap.size := by omega
          have hTL := hT4.out nq
          have hBLL := hBL.out nq
          rw [← hwq] at hTL hBLL
          rw [← hwq]
          replace hwq := hide hwq
          have yqa : (wq.alloc (.cells #[.int .i64 cv] 2)).cell? ⟨bt, k, none⟩ = some (.slice Ah nh chh) := (((Below.refl wq.heap.size wq).alloc (Nat.le_refl _) _).cell (p := ⟨bt, k, none⟩) (by show bt < _; omega)).trans yq
          have yL := World.cell?_setCell_same (wq.alloc (.cells #[.int .i64 cv] 2)) ⟨bt, k, none⟩ (.slice (some ⟨wq.heap.size, 0, none⟩) 1 1) yqa
          have hLs : SlI ((wq.alloc (.cells #[.int .i64 cv] 2)).setCell ⟨bt, k, none⟩ (.slice (some ⟨wq.heap.size, 0, none⟩) 1 1)) 0 ((wq.alloc (.cells #[.int .i64 cv] 2)).setCell ⟨bt, k, none⟩ (.slice (some ⟨wq.heap.size, 0, none⟩) 1 1)).heap.size (some ⟨wq.heap.size, 0, none⟩) 1 [cv] := by
            obtain ⟨A9, m9, c9, u1, -, u2, -, -⟩ := hTL.2 k hkn
            rw [yL] at u1
            injection u1 with u1
            injection u1 with u1 u3 u4
            subst u1 u3
            (try dsimp only at u2)
            rw [if_pos rfl] at u2
            exact u2
          rw [← e2.out] at hTL
          obtain ⟨wL, hwL⟩ : ∃ wL, wL = (wq.alloc (.cells #[.int .i64 cv] 2)).setCell ⟨bt, k, none⟩ (.slice (some ⟨wq.heap.size, 0, none⟩) 1 1) := ⟨_, rfl⟩
          rw [← hwL] at hTL hBLL yL hLs
          rw [World.setCell_alloc_past _ bt k _ (show bt < wq.heap.size by omega)] at hwL
          have q5 := hide (containsFuncJ_calls 39 #[.pointer (some ⟨w.heap.size, 0, none⟩)] (fun y => !decide (y ∈ rg)) (some ⟨wq.heap.size, 0, none⟩) 1 1 [cv] wL 0 _ hLs (by omega) (fun v W => by kernel_rfl) (fun x W _ hW => hcl.out x W (hBLL.trans (hW.mono hBLL.size))))
          have hBLw := hide (hB0.out.trans (hBLL.mono hB0.out.size))
          replace hTL := hide hTL
          replace hBLL := hide hBLL
          clear hT4 hBL hLs
          go_upto_region 12 with fail
          rw [← hwL]
          replace hwL := hide hwL
          by_cases hcv : cv ∈ rg
          · have hany : ([cv].any fun y => !decide (y ∈ rg)) = false := by simp [hcv]
            rw [hany] at q5
            have hV2 := hide (hVs.out (hcr.out hcv))
            clear hcv hany yqa yq cq fq dq0
            go_wp2_with fail
            refine q5.out.mono ?_
            rintro e w6 ⟨rfl, hb6⟩
            have hT6 := hide (hTL.out.below hb6 (Nat.le_refl _))
            have hB6 := hide (hBLL.out.trans (hb6.mono hBLL.out.size))
            clear hb6 q5 yS d0 d2 yL
            go_wp2_with fail
            go_roundw
            case rel => exact ⟨t + 1, by omega, by go_num, hT6.out, hV2.out, hB6.out⟩
            case measure => simp [intOf]; omega
          · have hany : ([cv].any fun y => !decide (y ∈ rg)) = true := by simp [hcv]
            rw [hany] at q5
            have hfin := hide (hnoV.out (hcr2.out hcv))
            clear hcv hany yqa yq cq fq dq0
            go_wp2_with fail
            refine q5.out.mono ?_
            rintro e w6 ⟨rfl, hb6⟩
            have hBq := hide (hBLw.out.trans (hb6.mono hBLw.out.size))
            clear hb6 q5 yS d0 d2 yL
            go_wp2_with fail
            go_ret
            exact ⟨false, rfl, ⟨fun h => (by cases h), fun h => absurd h hfin.out⟩, hBq.out⟩
        · have e1 : decide (cv ∈ l) = false := decide_eq_false hmem
          rw [e1] at qc
          replace qc := hide qc
          have hfin : Hid (¬ AccC g o (fun v => (v : Int) ∈ rg) (fun v => atL ch v)) := hnoV fun h => hmem (by have := h.1 hgo; rw [hgr] at this; rw [← hcv2]; exact this)
          have hBq := hide (fun N => hBSw.trans ((below_drewN wS N).mono hBSw.size))
          clear hmem e1 hnoV hVs hcv hcv2 hTs hsS hs hxg hgo hgr hne hinc2 hBS hBSw hk hkr
          go_wp2_with fail
          go_quiet ((go_at_call 38; with_reducible exact same_quiet (qc.out _)))
          go_wp2_with fail
          go_ret
          exact ⟨false, rfl, ⟨fun h => (by cases h), fun h => absurd h hfin.out⟩, hBq.out nq⟩
      · have hop2 : (o == p) = false := by rw [beq_eq_false_iff_ne]; exact hop
        have hrow : rowI g p (fun v => atL ch v) k = l := by rw [rowI_opp (by rw [hgo]; exact hop), hgr]
        have q5 := hide (containsFuncJ_calls 39 #[.pointer (some ⟨w.heap.size, 0, none⟩)] (fun y => !decide (y ∈ rg)) Ah nh chh l wS 0 _ hsS hnh (fun v W => by kernel_rfl) (fun x W _ hW => hcl.out x W (hBS.trans (hW.mono hBS.size))))
        have hT2 : Hid (TabJ wS bt n (nxI g p (fun v => atL ch v) (rg.take (t + 1)))) := by
          have e : nxI g p (fun v => atL ch v) (rg.take (t + 1)) = fun v => if v = k then l else nxI g p (fun v => atL ch v) (rg.take t) v := by funext v; rw [hstep.out v, hrow]
          show TabJ _ _ _ _
          rw [e]
          exact hTs
        by_cases hany : l.any (fun y => !decide (y ∈ rg)) = true
        · rw [hany] at q5
          have hfin : Hid (¬ AccC g p (fun v => (v : Int) ∈ rg) (fun v => atL ch v)) := hnoV fun h => by
            obtain ⟨y, hy, hy2⟩ := List.any_eq_true.1 hany
            rw [Bool.not_eq_true', decide_eq_false_iff_not] at hy2
            exact hy2 (h.2 y (by rw [hrow]; exact hy))
          replace hBSw := hide hBSw
          clear hany hnoV hVs hTs hsS hs hxg hgo hgr hne hinc2 hBS hk hkr hT2 hop hrow
          go_wp2_with fail
          refine q5.out.mono ?_
          rintro e w6 ⟨rfl, hb6⟩
          have hBq := hide (hBSw.out.trans (hb6.mono hBSw.out.size))
          clear hb6 q5 yS d0 d2
          go_wp2_with fail
          go_ret
          exact ⟨false, rfl, ⟨fun h => (by cases h), fun h => absurd h hfin.out⟩, hBq.out⟩
        · have hany2 := Bool.eq_false_iff.2 hany
          rw [hany2] at q5
          have hV2 := hide (hVs ⟨fun h => absurd (hgo.symm.trans h) hop, fun y hy => by
            rw [hrow] at hy
            rw [List.any_eq_false] at hany2
            have := hany2 y hy
            simpa using this⟩)
          replace hBS := hide hBS
          clear hany hany2 hnoV hVs hTs hsS hs hxg hgo hgr hne hinc2 hBSw hk hkr hop hrow
          go_wp2_with fail
          refine q5.out.mono ?_
          rintro e w6 ⟨rfl, hb6⟩
          have hT6 := hide (hT2.out.below hb6 (Nat.le_refl _))
          have hB6 := hide (hBS.out.trans (hb6.mono hBS.out.size))
          clear hb6 q5 yS d0 d2
          go_wp2_with fail
          go_roundw
          case rel => exact ⟨t + 1, by omega, by go_num, hT6.out, hV2.out, hB6.out⟩
          case measure => simp [intOf]; omega
    · obtain rfl : t = nr := by omega
      have t1 : ¬ (t : Int) < (t : Int) := by omega
      have htk : rg.take t = rg := List.take_of_length_le (by rw [hrl.out]; exact Nat.le_refl _)
      have hTo := hT.out
      have hVo := hV.out
      rw [htk] at hTo hVo
      have hBw := hide (hB0.out.trans (hB.out.mono hB0.out.size))
      have hcyc : Hid ((CycB n (nxI g p (fun v => atL ch v) rg) (g.map fun x => x.2.1) p n → ¬ AccC g p (fun v => (v : Int) ∈ rg) (fun v => atL ch v)) ∧ (¬ CycB n (nxI g p (fun v => atL ch v) rg) (g.map fun x => x.2.1) p n → AccC g p (fun v => (v : Int) ∈ rg) (fun v => atL ch v))) := by
        have e := hgl.out
        have hi := hinc.out
        rw [e] at hi ⊢
        exact ⟨fun h1 h2 => acc_no ok.out h2 h1, fun h1 => acc_of ok.out hi hVo h1⟩
      have hin : Hid (∀ k, k < n → ∀ x, x ∈ nxI g p (fun v => atL ch v) rg k → 0 ≤ x ∧ x < n) := fun k hk x hx => by
        unfold nxI at hx
        split at hx
        · rename_i c
          exact hinc.out.1 _ ((hVo k c).2 x hx)
        · exact absurd hx (List.not_mem_nil)
      replace hTo := hide hTo
      have hPp : Hid (∀ k, k < n → 0 ≤ atL (g.map fun x => x.2.1) k) := fun k hk => by
        rw [pri_atL]
        obtain ⟨o, pr, l, Ah, nh, chh, hxg, -, -, -, -, -, -, hprb, -⟩ := hg.out.cell ok.out hk
        rw [gPri_at hxg]; exact hprb.1
      generalize nxI g p (fun v => atL ch v) rg = NX at *
      clear hT hV hVo htk hx hr hinc
      obtain ⟨wM, rfl⟩ : ∃ wM : World, wM = wr := ⟨_, rfl⟩
      go_wp2_with fail
      go_loopw [12, 89] (fun v i wr => ∃ (k : Nat) (Ao : Option Addr) (co : Nat), k ≤ n ∧ i = .int .i64 (k : Nat) ∧ v = .slice Ao k co ∧ Hid (Own 1 iv wr wM.heap.size 2 Ao k co (priL g k)) ∧ Hid (Below wM.heap.size wM wr)) (fun _ i _ => n - (intOf i).toNat)
      case atStart => exact ⟨0, none, 0, Nat.zero_le _, rfl, rfl, Own.nil_ _ _ _, Below.refl _ _⟩
      case round =>
        obtain ⟨k, Ao, co, hk, rfl, rfl, hO, hb⟩ := hrel
        have hzr := hb.out.size
        by_cases hlt2 : k < n
        · have k0 : (0 : Int) ≤ (k : Int) := by omega
          have k1 : (k : Int) < (n : Int) := by omega
          have hbw := hBw.out.trans (hb.out.mono hBw.out.size)
          obtain ⟨o, pr, l, Ah, nh, chh, hxg, c0, c1, c2, -⟩ := (hg.out.below hbw (Nat.le_refl _)).cell ok.out hlt2
          have hps := hide (priL_succ hxg)
          have hbox := heap_alloc_new wr (.cells #[.int .i64 o, .int .i64 pr, .slice Ah nh chh] 49)
          have y1 : (wr.alloc (.cells #[.int .i64 o, .int .i64 pr, .slice Ah nh chh] 49)).cell? ⟨wr.heap.size, 1, none⟩ = some (.int .i64 pr) := (cell_of_row _ _ 1 _ _ (0, 0) hbox).trans rfl
          have hza : wM.heap.size ≤ ((wr.alloc (.cells #[.int .i64 o, .int .i64 pr, .slice Ah nh chh] 49)).alloc (.cells #[.int .i64 pr] 2)).heap.size := by rw [World.size_alloc, World.size_alloc]; omega
          have hba := hide ((hb.out.alloc hb.out.size (.cells #[.int .i64 o, .int .i64 pr, .slice Ah nh chh] 49)).alloc (by rw [World.size_alloc]; have := hb.out.size; omega) (.cells #[.int .i64 pr] 2))
          clear hxg hbox hbw
          go_wp2_with (first | (at_builtin; (with_reducible refine wpList_app rfl (.tmp 93) (.tmp 96) rfl hE.out flat_iv rfl ((hO.out.alloc _).alloc _) rfl (Sl.lit1' (wr.alloc (.cells #[.int .i64 o, .int .i64 pr, .slice Ah nh chh] 49)) 2 pr _ rfl 1 _ ?d0) ?d1 hza ?_); rotate_right; intro A6 c6 w6 hown6 hgr6 hb6 hat6))
          case d0 => first | rfl | (rw [World.size_alloc])
          case d1 => omega
          rw [← hps.out] at hown6
          have hb7 := hide (hba.out.trans (hb6.mono (by omega)))
          replace hown6 := hide hown6
          clear hgr6 hb6 hat6
          go_roundw
          case rel => exact ⟨k + 1, A6, c6, by omega, by go_num, rfl, hown6.out, hb7.out⟩
          case measure => simp [intOf]; omega
        · obtain rfl : k = n := by omega
          have k1 : ¬ (k : Int) < (k : Int) := by omega
          have hall : priL g k = g.map fun x => x.2.1 := by unfold priL; rw [List.take_of_length_le (by have := hgl.out; omega)]
          have hOo := hO.out.sl flat_iv
          rw [hall] at hOo
          have qb := hide (badCycle_calls bt k k NX Ao co (g.map fun x => x.2.1) p wr (hTo.out.below hb.out (Nat.le_refl _)) hn7 (hOo.more (Nat.zero_le _) (Nat.le_refl _)) hPp.out hin.out)
          have hbw := hide (hBw.out.trans (hb.out.mono hBw.out.size))
          clear hO hOo hall hb
          go_wp2_with fail
          refine qb.out.mono ?_
          rintro e w8 ⟨b, rfl, hbi, hb8⟩
          have hfin : Hid ((!b) = true ↔ AccC g p (fun v => (v : Int) ∈ rg) (fun v => atL ch v)) := by
            cases b with
            | true => exact ⟨fun h => (by cases h), fun h => absurd h (hcyc.out.1 (hbi.1 rfl))⟩
            | false => exact ⟨fun _ => hcyc.out.2 (fun h => by cases hbi.2 h), fun _ => rfl⟩
          have hb9 := hide (hbw.out.trans (hb8.mono hbw.out.size))
          clear qb hbi hb8 hbw hcyc
          go_wp2_with fail
          go_ret
          exact ⟨!b, rfl, hfin.out, hb9.out⟩

end Go.Proofs.Ythmhlbkkhaplkaa

namespace Go.Proofs.Ythmhlbkkhaplkaa
set_option linter.unusedVariables false
set_option linter.unusedSimpArgs false

/-- What player p wins below v. -/
noncomputable def wonL (g : DV) (p : Int) (v : Nat) : List Int := ((List.range v).filter fun u => decide (wonI g u = p)).map Int.ofNat
section
variable {g : DV} {p : Int}
theorem wonL_yes {v : Nat} (h : wonI g v = p) : wonL g p (v + 1) = wonL g p v ++ [(v : Int)] := by
  unfold wonL
  rw [List.range_succ, List.filter_append, List.map_append]
  congr 1
  simp [h]
theorem wonL_no {v : Nat} (h : wonI g v ≠ p) : wonL g p (v + 1) = wonL g p v := by
  unfold wonL
  rw [List.range_succ, List.filter_append, List.map_append]
  simp [h]
theorem wonL_mem {n : Nat} {x : Int} : x ∈ wonL g p n ↔ ∃ v : Nat, x = (v : Int) ∧ v < n ∧ wonI g v = p := by
  unfold wonL
  rw [List.mem_map]
  constructor
  · rintro ⟨v, hv, rfl⟩
    obtain ⟨a, b⟩ := List.mem_filter.1 hv
    exact ⟨v, rfl, List.mem_range.1 a, of_decide_eq_true b⟩
  · rintro ⟨v, rfl, a, b⟩
    exact ⟨v, List.mem_filter.2 ⟨List.mem_range.2 a, decide_eq_true b⟩, rfl⟩
theorem wonL_at {n v : Nat} : (v : Int) ∈ wonL g p n ↔ v < n ∧ wonI g v = p := by
  rw [wonL_mem]
  constructor
  · rintro ⟨u, e, h⟩
    obtain rfl : v = u := by omega
    exact h
  · exact fun h => ⟨v, rfl, h⟩
theorem wonL_len (n : Nat) : (wonL g p n).length ≤ n := by
  unfold wonL
  rw [List.length_map]
  exact Nat.le_trans (List.length_filter_le _ _) (by simp)
theorem wonL_inc (n : Nat) : Inc n (wonL g p n) := by
  refine ⟨fun x hx => ?_, ?_⟩
  · obtain ⟨v, rfl, hv, -⟩ := wonL_mem.1 hx
    omega
  · unfold wonL
    rw [List.pairwise_map]
    exact (List.pairwise_lt_range.sublist List.filter_sublist).imp fun {a b} h => by
      show (a : Int) < (b : Int)
      omega
/-- The strategy is accepted on what is won. -/
theorem acc_won (ok : GameOk g) : AccC g p (fun v => (v : Int) ∈ wonL g p g.length) (fun v => atL (stratF g) v) := by
  have h := acc_best (p := p) ok
  have hR : (fun v : Nat => (v : Int) ∈ wonL g p g.length) = fun v => v < g.length ∧ wonI g v = p := by funext v; exact propext wonL_at
  rw [hR]
  have hC : ∀ v, v < g.length → wonI g v = p → gOwn g v = p → atL (stratF g) v = choW g (v : Int) := fun v hv hw ho => atL_get (choW_at ok hv (ho.trans hw.symm)).1
  have hE : EdgC g p (fun v => v < g.length ∧ wonI g v = p) (fun v => atL (stratF g) v) = EdgC g p (fun v => v < g.length ∧ wonI g v = p) (fun v => choW g (v : Int)) := by
    funext a b
    refine propext ⟨fun ⟨h1, h2, h3⟩ => ⟨h1, h2, fun ho => (h3 ho).trans (congrArg Int.toNat (hC a h1.1 h1.2 ho))⟩, fun ⟨h1, h2, h3⟩ => ⟨h1, h2, fun ho => (h3 ho).trans (congrArg Int.toNat (hC a h1.1 h1.2 ho).symm)⟩⟩
  refine ⟨h.sub, fun v hv ho => ?_, h.opp, ?_⟩
  · have := h.own v hv ho
    (try dsimp only at this ⊢)
    rw [hC v hv.1 hv.2 ho]; exact this
  · rw [hE]; exact h.cyc
end
end Go.Proofs.Ythmhlbkkhaplkaa

namespace Go.Proofs.Ythmhlbkkhaplkaa
open Go.ChangeShapes Go.WideShapes Go.ChangeAt Go.RowKit
set_option linter.unusedVariables false
set_option linter.unusedSimpArgs false

theorem r8At_calls (B : Option Addr) (m d : Nat) (more : List Int) (w : World) (lo hi : Nat) (h : SlU w lo hi B m more) (hc : ∀ x, x ∈ more → 0 ≤ x ∧ x ≤ 255) (hm : m ≤ maxLen) :
    Calls Try.prog 6 #[.slice B m d, .int .i64 0, .int .i64 2] w fun e w' => ∃ p : Int, e = .returned (.int .i64 p) ∧ (p = 0 ∨ p = 1) ∧ w = w' := by
  have hm' : m ≤ 9223372036854775807 := by unfold maxLen at hm; omega
  clear hm
  by_cases h0 : 0 < m
  · obtain ⟨b, off, rfl, g1, g2, g3, hcell⟩ := h.at_ h0
    have hlen := h.len
    obtain ⟨x, hx⟩ : ∃ x, more[0]? = some x := ⟨more[0]'(by omega), List.getElem?_eq_getElem (by omega)⟩
    obtain ⟨hx0, hx1⟩ := hc x (List.mem_of_getElem? hx)
    have cx := (hcell 0 x hx 0 _ rfl).1
    simp only [Nat.zero_mul, Nat.add_zero] at cx
    have m1 : ¬ (m : Int) ≤ 0 := by omega
    have m2 : ¬ (0 : Int) ≥ (m : Int) := by omega
    have m3 : (0 : Int) < (m : Int) := by omega
    clear h hc hcell hx
    go_enter Try.func6, Try.ntmps6
    go_wp2_with fail
    go_ret
    exact ⟨x % 2, rfl, by omega, rfl⟩
  · obtain rfl : m = 0 := by omega
    clear h hc
    go_enter Try.func6, Try.ntmps6
    go_wp2_with fail
    go_ret
    exact ⟨0, rfl, .inl rfl, rfl⟩
end Go.Proofs.Ythmhlbkkhaplkaa
