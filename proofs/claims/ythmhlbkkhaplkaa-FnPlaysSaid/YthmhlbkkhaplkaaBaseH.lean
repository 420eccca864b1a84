/-
  Several texts in one:
  slices.Repeat of one number. Conditions: 1 to 1048576 times.
  The program's StrategyOf. Conditions: at most 1048576 vertices (games that are not valid are refused).
  Two equal lists of numbers by the laws' own test, the winners and the strategy of a valid game by the program, choices that are replaced: words for the law FnPlays. Conditions: sizes.
  Bytes as an argument of a law. Conditions: none.
-/
import Derived.Test.YthmhlbkkhaplkaaBaseB
import Derived.Test.YthmhlbkkhaplkaaBaseC
import Derived.Test.YthmhlbkkhaplkaaBaseE
import Derived.Test.YthmhlbkkhaplkaaBaseF
import Derived.Test.YthmhlbkkhaplkaaBaseG
import Derived.Laws.CopyOwn
import Derived.Laws.Bits64b
import Derived.StillTailTactics
import Derived.Deep.RegionLaw
import Derived.Deep.LoopGhost
import Derived.Deep.RegionHeld3
set_option linter.unusedSimpArgs false
set_option linter.unusedVariables false
namespace Go.Proofs.Ythmhlbkkhaplkaa
open Go.ChangeShapes Go.WideShapes Go.ChangeAt Go.RowKit
set_option linter.unusedVariables false
set_option maxHeartbeats 1600000 in
set_option maxRecDepth 100000 in
theorem repeatI_calls (A : Option Addr) (c : Nat) (b : Int) (n : Nat) (w : World) (lo hi : Nat) (h : SlI w lo hi A 1 [b]) (hn0 : 0 < n) (hn : n ≤ 1048576) :
    Calls Try.prog 62 #[.slice A 1 c, .int .i64 n] w fun e w' => ∃ A', e = .returned (.slice A' n n) ∧ SlI w' w.heap.size w'.heap.size A' n (List.replicate n b) ∧ Below w.heap.size w w' := by
  have hmk := run_make_int n hn
  obtain ⟨b1, o1, rfl, g1, g2, g3, hc⟩ := h.at_ (by omega)
  have c0 := (hc 0 b rfl 0 _ rfl).1
  simp only [Nat.zero_mul, Nat.add_zero] at c0
  have hsz : (Try.prog.info? 2).map (·.size) = some 1 := by kernel_rfl
  have hb0 : Below w.heap.size w (w.alloc (.cells (madeCells #[.int .i64 0] n) 2)) := (Below.refl _ _).alloc (Nat.le_refl _) _
  have c1 := (hb0.cell (p := ⟨b1, o1, none⟩) g3).trans c0
  have hrow : (w.alloc (.cells (madeCells #[.int .i64 0] n) 2)).heap[w.heap.size]? = some (.cells (rowR (.int .i64 b) (.int .i64 0) 0 n).toArray 2 (0, 0)) := by
    rw [heap_alloc_new]
    congr 2
    apply Array.ext'
    rw [toList_madeCells_one]
    simp [rowR]
  replace hrow := hide hrow
  replace hb0 := hide hb0
  replace c1 := hide c1
  replace hsz := hide hsz
  have hE := hide elem_int64
  clear hc h
  go_enter Try.func62, Try.ntmps62
  go_wp2_with (first | (go_at_call 92; (with_reducible refine (mul_one' n hn _).mono ?_); rintro e w' ⟨rfl, rfl⟩) | (with_reducible refine wpList_copy_splice rfl (.tmp 31) (.tmp 32) 26 26 rfl 2 Try.underlying26 hsz.out (some ⟨w.heap.size, 0, none⟩) (some ⟨b1, o1, none⟩) n n 1 c rfl rfl w.heap.size 0 (rowR (.int .i64 b) (.int .i64 0) 0 n) 2 hrow.out [.int .i64 b] ?k1 (fun _ => ⟨rfl, ⟨b1, o1, none⟩, rfl, ?k2⟩) ?k3 ?k4 w.heap.size w hb0.out (Nat.le_refl _) ?_))
  case k1 => show 1 = min 1 n; omega
  case k2 =>
    intro j v hj
    match j, hj with
    | 0, hj => simp at hj; subst hj; simpa [Addr.add] using c1.out
  case k3 => rw [rowR_len _ _ (Nat.zero_le _)]; simp; omega
  case k4 => intro v hv; simp at hv; subst hv; rfl
  rintro w1 hr1 hb1
  have hr1' : Hid (w1.heap[w.heap.size]? = some (.cells (rowR (.int .i64 b) (.int .i64 0) 1 n).toArray 2 (0, 0))) := by
    have := rowR_splice (.int .i64 b) (.int .i64 0) (m := 0) (k := 1) (n := n) (by omega)
    rw [List.replicate_one, Nat.zero_add] at this
    show _ = _
    rw [← this]
    exact hr1.out
  clear hr1 hrow hb0 c1 hmk
  go_wp2
  go_loopg [8] n (fun N m wr => ∃ k : Nat, 1 ≤ k ∧ k ≤ n ∧ m = .int .i64 k ∧ Hid (wr.heap[w.heap.size]? = some (.cells (rowR (.int .i64 b) (.int .i64 0) k n).toArray 2 (0, 0))) ∧ Below w.heap.size w wr ∧ Hid (n - k ≤ N))
  case atStart => exact ⟨1, Nat.le_refl _, hn0, rfl, hr1', hb1, by show _ ≤ _; omega⟩
  case round =>
    obtain ⟨k, hk1, hk, rfl, hr, hb, hN⟩ := hrel
    clear hr1' hb1
    by_cases hlt : k < n
    · have hcut : ∀ W : World, (Instr.slice 26 (.slice (some ⟨w.heap.size, 0, none⟩) n n) (some (.int .i64 (k : Int))) none none).run Try.prog W = .ok (.slice (some ⟨w.heap.size, k, none⟩) (n - k) (n - k)) W := fun W => by
        rw [run_cut elem_int64 (some ⟨w.heap.size, 0, none⟩) n n k hk W]
        unfold cutA
        rw [if_neg (by omega), Option.map_some, addr_add, Nat.zero_add, Nat.mul_one]
      have hhead : ∀ W : World, (Instr.slice 26 (.slice (some ⟨w.heap.size, 0, none⟩) n n) none (some (.int .i64 (k : Int))) none).run Try.prog W = .ok (.slice (some ⟨w.heap.size, 0, none⟩) k n) W := fun W => run_head elem_int64 (some ⟨w.heap.size, 0, none⟩) n n k hk W
      have hzw := hide ((Array.getElem?_eq_some_iff.1 hr.out).1)
      have i1 : (0 : Int) ≤ (k : Int) := by omega
      have i2 : (k : Int) ≤ (n : Int) := by omega
      obtain ⟨N2, rfl⟩ : ∃ N2, gk = N2 + 1 := ⟨gk - 1, by have := hN.out; omega⟩
      have k2 : Hid (∀ j v, (List.replicate (Nat.min k (n - k)) (Value.int .i64 b))[j]? = some v → wr.drew.cell? ((⟨w.heap.size, 0, none⟩ : Addr).add j) = some v) := by
        intro j v hj
        have hjk : j < Nat.min k (n - k) := by
          have := (List.getElem?_eq_some_iff.1 hj).1
          simpa using this
        have hjk2 : j < k := Nat.lt_of_lt_of_le hjk (Nat.min_le_left _ _)
        have hv : v = .int .i64 b := List.eq_of_mem_replicate (List.mem_of_getElem? hj)
        subst hv
        rw [addr_add, Nat.zero_add]
        refine (cell_of_row _ _ _ _ _ (0, 0) (show wr.drew.heap[w.heap.size]? = _ from hr.out)).trans ?_
        simpa using rowR_get _ _ hjk2
      have k3 : Hid (k + (List.replicate (Nat.min k (n - k)) (Value.int .i64 b)).length ≤ (rowR (.int .i64 b) (.int .i64 0) k n).length) := by
        show _ ≤ _
        rw [rowR_len _ _ hk, List.length_replicate]; have : Nat.min k (n - k) ≤ n - k := Nat.min_le_right k (n - k); omega
      have k4 : Hid (∀ v, v ∈ List.replicate (Nat.min k (n - k)) (Value.int .i64 b) → v.oneCell' = true) := fun v hv => by rw [List.eq_of_mem_replicate hv]; rfl
      have k5 : Hid (wr.drew.heap[w.heap.size]? = some (.cells (rowR (.int .i64 b) (.int .i64 0) k n).toArray 2 (0, 0))) := hr.out
      have k6 := hide hb.drew
      go_wp2
      go_region_law (refine step_copy_splice (by rfl) (.tmp 41) (.tmp 44) 26 26 (by rfl) 2 Try.underlying26 hsz.out (some ⟨w.heap.size, k, none⟩) (some ⟨w.heap.size, 0, none⟩) (n - k) (n - k) k n (by go_simp) (by go_simp) w.heap.size k (rowR (.int .i64 b) (.int .i64 0) k n) 2 k5.out (List.replicate (Nat.min k (n - k)) (.int .i64 b)) (List.length_replicate ..) (fun _ => ⟨rfl, ⟨w.heap.size, 0, none⟩, rfl, k2.out⟩) k3.out k4.out w.heap.size w k6.out (Nat.le_refl _) ?_; intro w2 hr2 hb2)
      have hmn : k + Nat.min k (n - k) ≤ n := by have : Nat.min k (n - k) ≤ n - k := Nat.min_le_right k (n - k); omega
      have hmp : 1 ≤ Nat.min k (n - k) := by show 1 ≤ min k (n - k); omega
      have hr2' : Hid (w2.heap[w.heap.size]? = some (.cells (rowR (.int .i64 b) (.int .i64 0) (k + Nat.min k (n - k)) n).toArray 2 (0, 0))) := by
        show _ = _
        rw [← rowR_splice (.int .i64 b) (.int .i64 0) hmn]
        exact hr2.out
      clear hr2 hcut hhead
      try simp only [List.length_replicate, goInt]
      generalize Nat.min k (n - k) = q at *
      go_wp2
      go_roundg N2
      case measure => omega
      case rel => exact ⟨k + q, by omega, hmn, by rw [IntWalk.i64_in _ (by omega)]; go_num, hr2', hb2, by show _ ≤ _; have := hN.out; omega⟩
    · have hkn : k = n := by omega
      subst hkn
      have hzw := (Array.getElem?_eq_some_iff.1 hr.out).1
      go_wp2
      go_ret
      refine ⟨_, rfl, ⟨by simp, fun _ => ⟨w.heap.size, 0, rfl, Nat.le_refl _, hzw, hzw, fun i x hx j u hu => ?_⟩⟩, hb⟩
      have hik : i < k := by
        have := (List.getElem?_eq_some_iff.1 hx).1
        simpa using this
      have hxb : x = b := List.eq_of_mem_replicate (List.mem_of_getElem? hx)
      subst hxb
      have hj : j = 0 := by
        have := (List.getElem?_eq_some_iff.1 hu).1
        simp [iv] at this
        exact this
      subst hj
      simp [iv] at hu
      subst hu
      refine ⟨(cell_of_row _ _ _ _ _ (0, 0) hr.out).trans ?_, frozen_of_row _ _ _ _ _ hr.out⟩
      have := rowR_get (.int .i64 x) (.int .i64 0) (m := k) (n := k) hik
      simpa using this


end Go.Proofs.Ythmhlbkkhaplkaa

namespace Go.Proofs.Ythmhlbkkhaplkaa
open Go.ChangeShapes Go.WideShapes Go.ChangeAt Go.RowKit
set_option linter.unusedVariables false

theorem cloneI2_calls (A : Option Addr) (n c : Nat) (l : List Int) (w : World) (lo hi : Nat) (h : SlI w lo hi A n l) (hn : n ≤ 1048576) :
    Calls Try.prog 64 #[.slice A n c] w fun e w' => ∃ A' c', e = .returned (.slice A' n c') ∧ n ≤ c' ∧ SlI w' w.heap.size w'.heap.size A' n l ∧ Below w.heap.size w w' := by
  have hnil : ∀ (W : World) (a : Option Addr) (m d : Nat), (binOp .eql 26 (.slice a m d) (.slice none 0 0)).run Try.prog W = .ok (.bool a.isNone) W := fun W a m d => Lib.run_eql_slice_nil W 26 _ a m d 0 0 Try.underlying26
  have hE := hide elem_int64
  cases A with
  | none =>
    have hn0 : n = 0 := by
      rcases Nat.eq_zero_or_pos n with h0 | h0
      · exact h0
      · obtain ⟨b, off, e, _⟩ := h.at_ h0
        cases e
    subst hn0
    have hl := List.eq_nil_of_length_eq_zero h.len
    subst hl
    go_enter Try.func64, Try.ntmps64
    go_wp2_with fail
    go_ret
    exact ⟨none, 0, rfl, Nat.le_refl _, Sl.nil_, Below.refl _ _⟩
  | some a =>
    have hs := hide (h.below ((Below.refl w.heap.size w).alloc (Nat.le_refl _) (.cells #[] 2)) (.inr (Nat.le_refl _)))
    have hz : w.heap.size ≤ (w.alloc (.cells #[] 2)).heap.size := by simp
    clear h
    go_enter Try.func64, Try.ntmps64
    go_wp2_with (first | (at_builtin; (with_reducible refine wpList_app rfl (.tmp 5) (.tmp 6) rfl hE.out flat_iv rfl (Own.made w 2 (Nat.le_refl _)) rfl hs.out ?c1 hz ?_); rotate_right; intro A2 c2 w2 hown2 hgr2 hb2 _))
    case c1 => omega
    go_ret
    rw [Nat.zero_add, List.nil_append] at hown2
    exact ⟨_, _, rfl, hown2.cap, hown2.sl flat_iv, ((Below.refl _ _).alloc (Nat.le_refl _) _).trans hb2⟩

/-- The choices so far, and -1 behind them. -/
noncomputable def outK (g : DV) (n k : Nat) : List Int := (stateK g k).2 ++ List.replicate (n - k) (-1)
theorem outK_none {g : DV} {n k : Nat} {L : DV} {out : List Int} (hk : k < n) (h : stateK g k = (L, out)) (hs : stateK g (k + 1) = (L, out ++ [-1])) : outK g n (k + 1) = outK g n k := by
  unfold outK
  rw [h, hs, show n - k = n - (k + 1) + 1 by omega, List.replicate_succ]
  simp
theorem outK_some {g : DV} {n k : Nat} {L L' : DV} {out : List Int} {x : Int} (hk : k < n) (hl : out.length = k) (h : stateK g k = (L, out)) (hs : stateK g (k + 1) = (L', out ++ [x])) : outK g n (k + 1) = (outK g n k).set k x := by
  unfold outK
  rw [h, hs, show n - k = n - (k + 1) + 1 by omega, List.replicate_succ]
  simp [← hl]
/-- Where the search among the own moves stands. -/
def InnerP (w : World) (b n : Nat) (L : DV) (k : Nat) (own : List Int) (row : Option Nat) (i : Nat) : Prop :=
  (own.take i).find? (keeps (winnersF L) L k) = none ∧ ∃ X, GameR w b 0 n (putN L k X) row
theorem GameR.setRow {w : World} {b n bo i : Nat} {g : DV} {v : Value} (h : GameR w b 0 n g (some bo)) (hn : 0 < n) : GameR (w.setCell ⟨bo, i, none⟩ v) b 0 n g (some bo) :=
  h.turn (by rw [World.size_setCell]; exact Nat.le_refl _) (fun q _ hne => Below.heap_setCell _ _ _ _ (fun e => hne (by rw [e]))) (.inl rfl) hn

set_option maxHeartbeats 3200000 in
set_option maxRecDepth 100000 in
theorem strategy_calls (A : Option Addr) (n c : Nat) (g : DV) (w : World) (h : GameAt w A n g) (ok : GameOk g) :
    Calls Try.prog 25 #[.slice A n c] w fun e w' => ∃ A' c', e = .returned (.slice A' n c') ∧ SlI w' w.heap.size w'.heap.size A' n (stratF g) ∧ Below w.heap.size w w' := by
  have hgl := h.len
  obtain ⟨hn0, hn1⟩ : 0 < n ∧ n ≤ 120 := by have := ok.1; omega
  have hst := hide (fun k (hk : k ≤ n) => stateK_ok ok k (by rw [← hgl]; exact hk))
  obtain ⟨ba, oa, rfl, hba⟩ := h.addr hn0
  have q1 := winners_calls (some ⟨ba, oa, none⟩) c g w (by rw [← hgl]; exact h) ok
  rw [← hgl] at q1
  replace q1 := hide q1
  replace h := hide h
  replace ok := hide ok
  replace hgl := hide hgl
  go_enter Try.func25, Try.ntmps25
  go_wp2_with fail
  refine q1.out.mono ?_
  rintro e w1 ⟨A1, k1, rfl, hs1, hb1⟩
  obtain ⟨b1, o1, rfl, g11, g12, g13, -⟩ := hs1.at_ hn0
  have hz1 := hb1.size
  have bel1 := hb1.alloc hz1 (.cells #[.slice (some ⟨b1, o1, none⟩) n k1] 26)
  have hbw := heap_alloc_new w1 (.cells #[.slice (some ⟨b1, o1, none⟩) n k1] 26)
  have hsB := hs1.below ((Below.refl w1.heap.size w1).alloc (Nat.le_refl _) (.cells #[.slice (some ⟨b1, o1, none⟩) n k1] 26)) (.inr (Nat.le_refl _))
  have q2 := hide (cloneGame_calls _ n c g _ (h.out.below bel1 (Nat.le_refl _)) ok.out)
  replace hbw := hide hbw
  replace hsB := hide hsB
  replace bel1 := hide bel1
  clear q1 hs1 hb1
  go_wp2_with fail
  refine q2.out.mono ?_
  rintro e w2 ⟨b, c2, rfl, hG2, hbb, hb2⟩
  rw [World.size_alloc] at hbb hb2
  have hz2 := hb2.size
  rw [World.size_alloc] at hz2
  have hbl : b < w2.heap.size := (hG2.frozen hn0).2
  have bel2 := bel1.out.trans (hb2.mono (by omega))
  have hbw2 := hide ((hb2.block w1.heap.size (by omega)).trans hbw.out)
  have hs2 := hide ((hsB.out.below hb2 (.inl (by omega))).more (lo' := w.heap.size) (hi' := w1.heap.size) (Nat.le_refl _) (Nat.le_refl _))
  have q3 := hide (repeatI_calls _ 1 (-1) n (w2.alloc (.cells #[.int .i64 (-1)] 2)) _ _ (Sl.lit1' w2 2 (-1 : Int) _ rfl 1 w2.heap.size rfl) hn0 (by omega))
  replace hG2 := hide hG2
  replace bel2 := hide bel2
  clear q2 hbw hsB hb2
  go_wp2_with fail
  refine q3.out.mono ?_
  rintro e w3 ⟨A3, rfl, hs3, hb3⟩
  obtain ⟨bo, oo, rfl, hbo1, hbo2, hbo3, -⟩ := hs3.at_ hn0
  rw [World.size_alloc] at hbo1
  have hz3 := hb3.size
  rw [World.size_alloc] at hz3
  have hb23 : Below w2.heap.size w2 w3 := ((Below.refl _ _).alloc (Nat.le_refl _) _).trans (hb3.mono (by simp))
  have hG3 := hide ((hG2.out.withRow hn0 (row := some bo) (fun q e => by injection e with e; omega)).below hb23 (Nat.le_refl _))
  have hO3 : Hid (SlI w3 bo (bo + 1) (some ⟨bo, oo, none⟩) n (outK g n 0)) := by
    show SlI _ _ _ _ _ _
    have : outK g n 0 = List.replicate n (-1) := by unfold outK; rw [stateK_zero]; simp
    rw [this]
    exact Sl.tight' hs3 hn0
  have hbw3 := hide ((hb23.block w1.heap.size (by omega)).trans hbw2.out)
  have hs23 := hide (hs2.out.below hb23 (.inr (Nat.le_refl _)))
  have bel3 := hide (bel2.out.trans (hb23.mono (by have := bel2.out.size; exact this)))
  have hzw := bel3.out.size
  generalize hBW : w1.heap.size = BW at *
  clear hBW q3 hs3 hb3 hb23 hG2 hs2 hbw2 bel2
  go_wp2_with fail
  go_loopw [21] (fun i wr => ∃ k : Nat, k ≤ n ∧ i = .int .i64 k ∧ Hid (GameR wr b 0 n (stateK g k).1 (some bo)) ∧ Hid (SlI wr bo (bo + 1) (some ⟨bo, oo, none⟩) n (outK g n k)) ∧ Hid (Only b (bo + 1) w3 wr)) (fun i _ => n - (intOf i).toNat)
  case atStart => exact ⟨0, Nat.zero_le _, rfl, hG3, hO3, Only.refl _ _ _⟩
  case round =>
    obtain ⟨k, hk, rfl, hGR, hO, ho⟩ := hrel
    clear hG3 hO3
    by_cases hlt : k < n
    · have S := hst.out k hk
      have hsucc := stateK_succ g k
      have hlt' : k < g.length := by have := hgl.out; omega
      rcases hh : stateK g k with ⟨L, out⟩
      rw [hh] at S hsucc hGR
      have belr : Below w.heap.size w wr := Only.below bel3.out ho.out (by omega) hzw
      have hzr := ho.out.size
      obtain ⟨o, p, l, Ah, nh, ch, hx9, c0, c1', c2', hl, hnh, -⟩ := (h.out.below belr (Nat.le_refl _)).cell ok.out hlt
      have hx : L[k]? = some (o, p, l) := (S.later k (Nat.le_refl _)).trans hx9
      have hoL : gOwn L k = o := gOwn_at hx
      have hraw : gRaw L k = l := gRaw_at hx
      have hwonL : wonI L k = wonI g k := wonI_eq S.win S.len (by rw [S.len]; exact hlt')
      have y1 := (cell_of_row _ _ 0 _ _ (0, 0) ((ho.out.block BW (by omega) (.inl (by omega))).trans hbw3.out)).trans (show _ = some (Value.slice (some ⟨b1, o1, none⟩) n k1) from rfl)
      have hsr := hide (hs23.out.only ho.out (.inl (by omega)))
      obtain ⟨x0, hx0, m0, -⟩ := SlI.cell hsr.out hlt
      rw [winnersF_at hlt'] at hx0
      injection hx0 with hx0
      have i1 : (0 : Int) ≤ (k : Int) := by omega
      have i2 : (k : Int) < (n : Int) := by omega
      have y1a := alloc_cell (o := .cells #[.int .i64 o, .int .i64 p, .slice Ah nh ch] 49) (show BW < wr.heap.size by omega) y1
      have m0a := alloc_cell (o := .cells #[.int .i64 o, .int .i64 p, .slice Ah nh ch] 49) (show b1 < wr.heap.size by omega) m0
      replace S := hide S
      replace hsucc := hide hsucc
      replace hx9 := hide hx9
      replace hx := hide hx
      replace hoL := hide hoL
      replace hraw := hide hraw
      replace hwonL := hide hwonL
      replace hh := hide hh
      replace hl := hide hl
      replace belr := hide belr
      have hVN : Hid (∀ N, Below wr.heap.size wr ((wr.alloc (.cells #[.int .i64 o, .int .i64 p, .slice Ah nh ch] 49)).drewN N)) := fun N => ((Below.refl _ _).alloc (Nat.le_refl _) _).trans ((below_drewN _ N).mono (by simp))
      by_cases hw : o = wonI g k
      · have hne : (o != x0) = false := by rw [bne_eq_false_iff_eq, ← hx0]; exact hw
        obtain ⟨nn, hpk, -, -⟩ := pick_is S.out.ok (by rw [S.out.len]; exact hlt') (by rw [hoL.out, hwonL.out]; exact hw)
        rw [pick_own S.out.ok (by rw [hoL.out, hwonL.out]; exact hw), hraw.out] at hpk
        have hpo := hide (pick_own S.out.ok (v := k) (by rw [hoL.out, hwonL.out]; exact hw))
        rw [hraw.out] at hpo
        have hinc : Hid (∀ x, x ∈ l → 0 ≤ x ∧ x < L.length) := fun x hx => (S.out.ok.raw (v := k) (by rw [hraw.out]; exact hx)).2
        have hraw' : Hid (putN L k l = L) := by show _ = _; rw [← hraw.out]; exact putN_raw (by rw [S.out.len]; exact hlt')
        replace hpk := hide hpk
        clear hw
        go_wp2
        go_quiet (fail)
        have hV := hVN.out nq
        have hblkV : ((wr.alloc (.cells #[.int .i64 o, .int .i64 p, .slice Ah nh ch] 49)).drewN nq).heap[wr.heap.size]? = some (.cells #[.int .i64 o, .int .i64 p, .slice Ah nh ch] 49 (0, 0)) := heap_alloc_new wr _
        have hzV : wr.heap.size < ((wr.alloc (.cells #[.int .i64 o, .int .i64 p, .slice Ah nh ch] 49)).drewN nq).heap.size := by simp
        have hlV := hl.out.below hV (.inr (Nat.le_refl _))
        generalize (wr.alloc (.cells #[.int .i64 o, .int .i64 p, .slice Ah nh ch] 49)).drewN nq = V at *
        have c2V := (cell_of_row _ _ 2 _ _ (0, 0) hblkV).trans (show _ = some (Value.slice Ah nh ch) from rfl)
        have c0V := hide ((cell_of_row _ _ 0 _ _ (0, 0) hblkV).trans (show _ = some (Value.int .i64 o) from rfl))
        have y1V := hide ((hV.cell (p := ⟨BW, 0, none⟩) (show BW < wr.heap.size by omega)).trans y1)
        have hsV := hide (hsr.out.below hV (.inr (Nat.le_refl _)))
        have q4 := hide (cloneI2_calls Ah nh ch l V _ _ hlV hnh)
        replace hV := hide hV
        clear y1 m0 y1a m0a c0 c1' c2' hlV hblkV hVN hne hx0
        go_wp2_with fail
        refine q4.out.mono ?_
        rintro e w4 ⟨A4, c4, rfl, hc4, hs4, hb4⟩
        have hclos : ∀ (v : Int) (W : World), v ∈ l → Below V.heap.size w4 W → Calls Try.prog 65 (#[.int .i64 v] ++ #[.pointer (some ⟨BW, 0, none⟩), .pointer (some ⟨wr.heap.size, 0, none⟩)]) W (Says (!toOwn L k v) W) := by
          intro v W hv hW
          have hb := hb4.trans hW
          have hxv := hinc.out v hv
          have hvl : v.toNat < L.length := by omega
          have k0 := (hb.cell (p := ⟨BW, 0, none⟩) (show BW < V.heap.size by omega)).trans y1V.out
          have k1' := (hb.cell (p := ⟨wr.heap.size, 0, none⟩) hzV).trans c0V.out
          have hsW := (hsV.out.below hb (.inr (Nat.le_refl _))).top.more (lo' := 0) (Nat.zero_le _) (Nat.le_refl _)
          have hc := strategy1_calls v BW wr.heap.size (some ⟨b1, o1, none⟩) n k1 (winnersF g) o p Ah nh ch W ⟨hxv.1, by have h1 : L.length = g.length := S.out.len; have h2 := hgl.out; omega⟩ hsW k0 k1'
          have he : (!decide ((winnersF g)[v.toNat]?.getD 0 = o)) = !toOwn L k v := by
            unfold toOwn
            rw [← S.out.win, winnersF_at hvl, hoL.out]
            rfl
          rw [he] at hc
          exact hc
        have q5 := hide (deleteFuncI_calls 65 #[.pointer (some ⟨BW, 0, none⟩), .pointer (some ⟨wr.heap.size, 0, none⟩)] (fun x => !toOwn L k x) A4 nh c4 l w4 V.heap.size hs4 hc4 hnh hb4.size (fun v W => by kernel_rfl) hclos)
        clear hclos
        have hz4 := hb4.size
        replace hb4 := hide hb4
        clear q4 hs4
        go_wp2_with fail
        refine q5.out.mono ?_
        rintro e w5 ⟨m, c5, rfl, hm, hs5, hb5⟩
        have hfl : (l.filter fun x => !!toOwn L k x) = l.filter (toOwn L k) := by simp
        rw [hfl] at hs5
        have hsub : Hid (∀ x, x ∈ l.filter (toOwn L k) → 0 ≤ x ∧ x < L.length) := fun x hx => hinc.out x (List.mem_filter.1 hx).1
        generalize l.filter (toOwn L k) = ow at *
        have hlen := hide hs5.len
        have b5 := hV.out.trans ((hb4.out.trans hb5).mono hV.out.size)
        have hG5 := hGR.out.below b5 (Nat.le_refl _)
        have hO5 := hide (hO.out.below b5 (.inr (Nat.le_refl _)))
        have ho5 := hide (ho.out.trans (Below.only (lo := b) (hi := bo + 1) b5 (Nat.le_refl _)))
        have hzb := hV.out.size
        have hK0 : Hid (InnerP w5 b n L k ow (some bo) 0) := ⟨rfl, l, by rw [hraw'.out]; exact hG5⟩
        replace hs5 := hide hs5
        clear q5 hb5 b5 hG5 hfl
        go_wp2_with fail
        go_loopw [40] (fun i wi => ∃ i' : Nat, i' ≤ m ∧ i = .int .i64 i' ∧ Hid (InnerP wi b n L k ow (some bo) i') ∧ Hid (SlI wi bo (bo + 1) (some ⟨bo, oo, none⟩) n (outK g n k)) ∧ Hid (Only b (bo + 1) w5 wi)) (fun i _ => m - (intOf i).toNat)
        case atStart => exact ⟨0, Nat.zero_le _, rfl, hK0, hO5, Only.refl _ _ _⟩
        case round =>
          obtain ⟨i, hi, rfl, hK, hOi, hoi⟩ := hrel
          clear hK0 hO5
          by_cases hil : i < m
          · have hs5i := hs5.out.only hoi.out (.inr (show bo + 1 ≤ V.heap.size by omega))
            obtain ⟨b3, o3, x, rfl, q1', q2', q3', hx, p0, -⟩ := SlI.get hs5i hil
            have hxb := hsub.out x (List.mem_of_getElem? hx)
            have hLl : L.length = n := by have h1 : L.length = g.length := S.out.len; have h2 := hgl.out; omega
            have okx := hide (S.out.ok.putN (v := k) (show k < L.length by omega) hxb)
            have hlx : (putN L k [x]).length = n := by rw [putN_len]; exact hLl
            obtain ⟨hfind, X, hX⟩ := hK.out
            have hzi := hoi.out.size
            have hbow : bo < wr.heap.size := by
              obtain ⟨b9, o9, e9, -, -, h9, -⟩ := hOi.out.at_ hn0
              cases e9
              exact h9
            obtain ⟨⟨Ah5, nh5, ch5, n5⟩, z5, hbl5⟩ := hX.cellN hlt
            have hF := hide (hX.fix hlt x (fun q e => by injection e with e; omega))
            have n5a := alloc_cell (o := .cells #[.int .i64 x] 2) hbl5 n5
            have z5a := alloc_frozen (o := .cells #[.int .i64 x] 2) hbl5 z5
            have hOW := hide (((hOi.out.only ((Only.refl b (b + 1) wr).setCell (p := ⟨b, k * 3 + 2, none⟩) (Nat.le_refl _) (Nat.lt_succ_self _) (.slice (some ⟨wr.heap.size, 0, none⟩) 1 1)) (.inr (show b + 1 ≤ bo by omega))).below ((Below.refl _ (wr.setCell ⟨b, k * 3 + 2, none⟩ (.slice (some ⟨wr.heap.size, 0, none⟩) 1 1))).alloc (Nat.le_refl _) (.cells #[.int .i64 x] 2)) (.inr (Nat.le_refl _))))
            have hoW := hide (((ho5.out.trans hoi.out).setCell (p := ⟨b, k * 3 + 2, none⟩) (Nat.le_refl _) (show b < bo + 1 by omega) (.slice (some ⟨wr.heap.size, 0, none⟩) 1 1)).trans (Below.only (lo := b) (hi := bo + 1) ((Below.refl _ (wr.setCell ⟨b, k * 3 + 2, none⟩ (.slice (some ⟨wr.heap.size, 0, none⟩) 1 1))).alloc (Nat.le_refl _) (.cells #[.int .i64 x] 2)) (Nat.le_refl _)))
            have hol : Hid (Only b (bo + 1) w5 ((wr.setCell ⟨b, k * 3 + 2, none⟩ (.slice (some ⟨wr.heap.size, 0, none⟩) 1 1)).alloc (.cells #[.int .i64 x] 2))) := ((hoi.out.setCell (p := ⟨b, k * 3 + 2, none⟩) (Nat.le_refl _) (show b < bo + 1 by omega) (.slice (some ⟨wr.heap.size, 0, none⟩) 1 1)).trans (Below.only (lo := b) (hi := bo + 1) ((Below.refl _ (wr.setCell ⟨b, k * 3 + 2, none⟩ (.slice (some ⟨wr.heap.size, 0, none⟩) 1 1))).alloc (Nat.le_refl _) (.cells #[.int .i64 x] 2)) (Nat.le_refl _)))
            have hi1 : (0 : Int) ≤ (i : Int) := by omega
            have hi2 : (i : Int) < (m : Int) := by omega
            have ew : IntKind.i64.wrap ((m : Int) - 1) = (m : Int) - 1 := IntWalk.i64_in _ (by omega)
            replace hfind := hide hfind
            replace hx := hide hx
            replace hlx := hide hlx
            clear hs5i hX hK q1' q2' q3'
            by_cases hlast : i + 1 = m
            · have hcmp : ((i : Int) == (m : Int) - 1) = true := by rw [beq_iff_eq]; omega
              have hpx : Hid (pickF L k = some x) := by
                show _ = _
                rw [hpo.out, hpk.out]
                have e1 : ow = ow.take i ++ [x] := by
                  have := List.take_add_one (l := ow) (i := i)
                  rw [hx.out, List.take_of_length_le (by rw [hlen.out]; omega)] at this
                  exact this
                have h8 := hpk.out
                rw [e1, List.find?_append, hfind.out] at h8
                simp only [Option.none_or, List.find?_cons, List.find?_nil] at h8
                split at h8
                · exact h8.symm
                · cases h8
              go_wp2
              go_quiet (fail)
              have hGV := hide (hF.out.drewN nq)
              have hOV := hide (hOW.out.drewN nq)
              have hoV := hide (hoW.out.trans (Below.only (lo := b) (hi := bo + 1) (below_drewN _ nq) (Nat.le_refl _)))
              generalize ((wr.setCell ⟨b, k * 3 + 2, none⟩ (.slice (some ⟨wr.heap.size, 0, none⟩) 1 1)).alloc (.cells #[.int .i64 x] 2)).drewN nq = V9 at *
              clear n5 z5 n5a z5a p0 hF hOW hoW hol
              have hstep : Hid (stateK g (k + 1) = (putN L k [x], out ++ [x])) := hsucc.out.trans (stepF_some (s := (L, out)) hpx.out)
              have hout := hide (outK_some hlt S.out.out hh.out hstep.out)
              have hOx := hide (SlI.put' hOV.out hlt x)
              obtain ⟨y8, hy8, u8, f8⟩ := SlI.cell hOV.out hlt
              have hGx := hide (hGV.out.setRow (i := oo + k) (v := .int .i64 x) hn0)
              have hox := hide (hoV.out.setCell (p := ⟨bo, oo + k, none⟩) (show b ≤ bo by omega) (Nat.lt_succ_self _) (.int .i64 x))
              clear hy8 hOV hGV hoV
              go_wp2_with fail
              go_roundw
              case rel => exact ⟨k + 1, by omega, by go_num, by rw [hstep.out]; exact hGx.out, by rw [hout.out]; exact hOx.out, hox.out⟩
              case measure => simp [intOf]; omega
            · have hcmp : ((i : Int) == (m : Int) - 1) = false := by rw [beq_eq_false_iff_ne]; omega
              have hbd : Below ((wr.setCell ⟨b, k * 3 + 2, none⟩ (.slice (some ⟨wr.heap.size, 0, none⟩) 1 1)).alloc (.cells #[.int .i64 x] 2)).heap.size ((wr.setCell ⟨b, k * 3 + 2, none⟩ (.slice (some ⟨wr.heap.size, 0, none⟩) 1 1)).alloc (.cells #[.int .i64 x] 2)) ((wr.setCell ⟨b, k * 3 + 2, none⟩ (.slice (some ⟨wr.heap.size, 0, none⟩) 1 1)).alloc (.cells #[.int .i64 x] 2)).drew := (Below.refl _ _).drew
              have hoD := hide (hoW.out.trans (Below.only (lo := b) (hi := bo + 1) hbd (Nat.le_refl _)))
              have yW : ((wr.setCell ⟨b, k * 3 + 2, none⟩ (.slice (some ⟨wr.heap.size, 0, none⟩) 1 1)).alloc (.cells #[.int .i64 x] 2)).drew.cell? ⟨BW, 0, none⟩ = some (.slice (some ⟨b1, o1, none⟩) n k1) := only_cell hoD.out (show BW < w3.heap.size by omega) (.inl (by omega)) ((cell_of_row _ _ 0 _ _ (0, 0) hbw3.out).trans (show _ = some (Value.slice (some ⟨b1, o1, none⟩) n k1) from rfl))
              have hBWlt : BW < ((wr.setCell ⟨b, k * 3 + 2, none⟩ (.slice (some ⟨wr.heap.size, 0, none⟩) 1 1)).alloc (.cells #[.int .i64 x] 2)).drew.heap.size := by simp; omega
              have hbb0 : BW ≤ b := by omega
              have qw := winners_calls (some ⟨b, 0, none⟩) c2 (putN L k [x]) ((wr.setCell ⟨b, k * 3 + 2, none⟩ (.slice (some ⟨wr.heap.size, 0, none⟩) 1 1)).alloc (.cells #[.int .i64 x] 2)).drew (by rw [hlx.out]; exact (hF.out.gw.at).below hbd (Nat.le_refl _)) okx.out
              rw [hlx.out] at qw
              replace qw := hide qw
              have yV : ((wr.setCell ⟨b, k * 3 + 2, none⟩ (.slice (some ⟨wr.heap.size, 0, none⟩) 1 1)).alloc (.cells #[.int .i64 x] 2)).cell? ⟨BW, 0, none⟩ = some (.slice (some ⟨b1, o1, none⟩) n k1) := yW
              obtain ⟨bk, hbk⟩ : ∃ bk, keeps (winnersF L) L k x = bk := ⟨_, rfl⟩
              have hwin : winnersF L = winnersF g := S.out.win
              cases bk
              · have hdec : decide (winnersF (putN L k [x]) = winnersF g) = false := by rw [← hwin]; exact hbk
                have hmiss := hide (find_take_step hfind.out hx.out hbk)
                clear hwin hbk
                have qe : Hid (∀ (A6 : Option Addr) (c6 : Nat) (w6 : World) (lo hi lo' hi' : Nat), SlI w6 lo hi A6 n (winnersF (putN L k [x])) → SlI w6 lo' hi' (some ⟨b1, o1, none⟩) n (winnersF g) → Calls Try.prog 66 #[.slice A6 n c6, .slice (some ⟨b1, o1, none⟩) n k1] w6 fun e w' => e = .returned (.bool false) ∧ Below w6.heap.size w6 w') := fun A6 c6 w6 lo hi lo' hi' ha hb => by
                  have := equalI_calls A6 (some ⟨b1, o1, none⟩) n n c6 k1 _ _ w6 _ _ _ _ ha hb (by omega) (by omega)
                  rw [hdec] at this
                  exact this
                clear hdec
                go_wp2
                go_region_held3 (fun w' => w'.cell? ⟨BW, 0, none⟩ = some (.slice (some ⟨b1, o1, none⟩) n k1)) (first | exact y7 | exact y6 | go_keep)
                  (first
                    | (go_at_call 24; (refine qw.out.mono ?_); rintro e w6 ⟨A6, c6, rfl, hs6, hb6⟩; have y6 := (hb6.cell (p := ⟨BW, 0, none⟩) hBWlt).trans yW; have hs26 := hide (hs23.out.only (hoD.out.trans (Below.only (lo := b) (hi := bo + 1) hb6 (Nat.le_refl _))) (.inl hbb0)); replace hs6 := hide hs6; replace hb6 := hide hb6)
                    | (go_at_call 66; (refine (qe.out A6 c6 w6 _ _ _ _ hs6.out hs26.out).mono ?_); rintro e w7 ⟨rfl, hb7⟩; have y7 := (hb7.cell (p := ⟨BW, 0, none⟩) (Nat.lt_of_lt_of_le hBWlt hb6.out.size)).trans y6; replace hb7 := hide hb7))
                have b7 := hb6.out.trans (hb7.out.mono hb6.out.size)
                have hG7 := (hF.out.below hbd (Nat.le_refl _)).below b7 (Nat.le_refl _)
                have hK7 : Hid (InnerP w7 b n L k ow (some bo) (i + 1)) := ⟨hmiss.out, [x], hG7⟩
                have hO7 := hide ((hOW.out.below hbd (.inr (Nat.le_refl _))).below b7 (.inr (Nat.le_refl _)))
                have ho7 := hide ((hol.out.trans (Below.only (lo := b) (hi := bo + 1) hbd (Nat.le_refl _))).trans (Below.only (lo := b) (hi := bo + 1) b7 (Nat.le_refl _)))
                clear b7 hG7
                go_wp2_with fail
                go_roundw
                case rel => exact ⟨i + 1, by omega, by go_num, hK7, hO7, ho7⟩
                case measure => simp [intOf]; omega
              · have hdec : decide (winnersF (putN L k [x]) = winnersF g) = true := by rw [← hwin]; exact hbk
                have hpx : Hid (pickF L k = some x) := by show _ = _; rw [hpo.out]; exact find_hit hfind.out hx.out hbk
                clear hwin hbk
                have qe : Hid (∀ (A6 : Option Addr) (c6 : Nat) (w6 : World) (lo hi lo' hi' : Nat), SlI w6 lo hi A6 n (winnersF (putN L k [x])) → SlI w6 lo' hi' (some ⟨b1, o1, none⟩) n (winnersF g) → Calls Try.prog 66 #[.slice A6 n c6, .slice (some ⟨b1, o1, none⟩) n k1] w6 fun e w' => e = .returned (.bool true) ∧ Below w6.heap.size w6 w') := fun A6 c6 w6 lo hi lo' hi' ha hb => by
                  have := equalI_calls A6 (some ⟨b1, o1, none⟩) n n c6 k1 _ _ w6 _ _ _ _ ha hb (by omega) (by omega)
                  rw [hdec] at this
                  exact this
                clear hdec
                go_wp2
                go_region_held3 (fun w' => w'.cell? ⟨BW, 0, none⟩ = some (.slice (some ⟨b1, o1, none⟩) n k1)) (first | exact y7 | exact y6 | go_keep)
                  (first
                    | (go_at_call 24; (refine qw.out.mono ?_); rintro e w6 ⟨A6, c6, rfl, hs6, hb6⟩; have y6 := (hb6.cell (p := ⟨BW, 0, none⟩) hBWlt).trans yW; have hs26 := hide (hs23.out.only (hoD.out.trans (Below.only (lo := b) (hi := bo + 1) hb6 (Nat.le_refl _))) (.inl hbb0)); replace hs6 := hide hs6; replace hb6 := hide hb6)
                    | (go_at_call 66; (refine (qe.out A6 c6 w6 _ _ _ _ hs6.out hs26.out).mono ?_); rintro e w7 ⟨rfl, hb7⟩; have y7 := (hb7.cell (p := ⟨BW, 0, none⟩) (Nat.lt_of_lt_of_le hBWlt hb6.out.size)).trans y6; replace hb7 := hide hb7))
                have b7 := hb6.out.trans (hb7.out.mono hb6.out.size)
                have hGV := hide ((hF.out.below hbd (Nat.le_refl _)).below b7 (Nat.le_refl _))
                have hOV := hide ((hOW.out.below hbd (.inr (Nat.le_refl _))).below b7 (.inr (Nat.le_refl _)))
                have hoV := hide (hoD.out.trans (Below.only (lo := b) (hi := bo + 1) b7 (Nat.le_refl _)))
                clear b7
                have hstep : Hid (stateK g (k + 1) = (putN L k [x], out ++ [x])) := hsucc.out.trans (stepF_some (s := (L, out)) hpx.out)
                have hout := hide (outK_some hlt S.out.out hh.out hstep.out)
                have hOx := hide (SlI.put' hOV.out hlt x)
                obtain ⟨y8, hy8, u8, f8⟩ := SlI.cell hOV.out hlt
                have hGx := hide (hGV.out.setRow (i := oo + k) (v := .int .i64 x) hn0)
                have hox := hide (hoV.out.setCell (p := ⟨bo, oo + k, none⟩) (show b ≤ bo by omega) (Nat.lt_succ_self _) (.int .i64 x))
                clear hy8 hOV hGV hoV
                go_wp2_with fail
                go_roundw
                case rel => exact ⟨k + 1, by omega, by go_num, by rw [hstep.out]; exact hGx.out, by rw [hout.out]; exact hOx.out, hox.out⟩
                case measure => simp [intOf]; omega
          · exfalso
            have : i = m := by omega
            subst this
            have h8 := hK.out.1
            rw [List.take_of_length_le (by rw [hlen.out]; exact Nat.le_refl _), hpk.out] at h8
            cases h8
      · have hne : (o != x0) = true := by rw [bne_iff_ne, ← hx0]; exact hw
        have hpk : Hid (pickF L k = none) := by show _ = _; unfold pickF; rw [if_neg (by rw [hoL.out, hwonL.out]; exact hw)]
        have hstep : Hid (stateK g (k + 1) = (L, out ++ [-1])) := hsucc.out.trans (stepF_none hpk.out)
        have hout := hide (outK_none hlt hh.out hstep.out)
        clear hw
        go_wp2
        go_quiet (fail)
        have hG6 := hide (hGR.out.below (hVN.out nq) (Nat.le_refl _))
        have hO6 := hide (hO.out.below (hVN.out nq) (.inr (Nat.le_refl _)))
        have ho6 := hide (ho.out.trans (Below.only (lo := b) (hi := bo + 1) (hVN.out nq) (Nat.le_refl _)))
        go_wp2
        go_roundw
        case rel => exact ⟨k + 1, by omega, by go_num, by rw [hstep.out]; exact hG6.out, by rw [hout.out]; exact hO6.out, ho6.out⟩
        case measure => simp [intOf]; omega
    · have hkn : k = n := by omega
      subst hkn
      have hfin : Hid (stratF g = outK g k k) := by show _ = _; unfold stratF outK; rw [← hgl.out]; simp
      have hbF : Hid (Below w.heap.size w wr) := Only.below bel3.out ho.out (by omega) hzw
      clear h hst
      go_wp2_with fail
      go_ret
      exact ⟨_, _, rfl, by rw [hfin.out]; exact hO.out.top.more (by omega) (Nat.le_refl _), hbF.out⟩


end Go.Proofs.Ythmhlbkkhaplkaa

namespace Go.Proofs.Ythmhlbkkhaplkaa
open Go.ChangeShapes Go.WideShapes Go.ChangeAt Go.RowKit
set_option linter.unusedVariables false
set_option linter.unusedSimpArgs false

theorem r8Long_no (A B : Option Addr) (n m c d : Nat) (w : World) (hn : n ≤ 1048576) (hm : m ≤ 1048576) :
    Calls Try.prog 5 #[.slice A n c, .slice B m d] w fun e w' => e = .returned (.bool false) ∧ w = w' := by
  have h1 : ¬ (1048576 : Int) < (n : Int) := by omega
  have h2 : ¬ (1048576 : Int) < (m : Int) := by omega
  go_enter Try.func5, Try.ntmps5
  go_wp2_with fail
  go_ret
  exact ⟨rfl, rfl⟩
theorem r8Long_yes (A B : Option Addr) (n m c d : Nat) (w : World) (h : 1048576 < n ∨ 1048576 < m) :
    Calls Try.prog 5 #[.slice A n c, .slice B m d] w fun e w' => e = .returned (.bool true) ∧ w = w' := by
  by_cases h1 : (1048576 : Int) < (n : Int)
  · go_enter Try.func5, Try.ntmps5
    go_wp2_with fail
    go_ret
    exact ⟨rfl, rfl⟩
  · have h2 : (1048576 : Int) < (m : Int) := by omega
    go_enter Try.func5, Try.ntmps5
    go_wp2_with fail
    go_ret
    exact ⟨rfl, rfl⟩
set_option maxRecDepth 100000 in
theorem r8Same_yes (A B : Option Addr) (n c d : Nat) (l : List Int) (w : World) (lo hi lo' hi' : Nat) (h : SlI w lo hi A n l) (g : SlI w lo' hi' B n l) (hn : n ≤ 1048576) :
    Calls Try.prog 16 #[.slice A n c, .slice B n d] w fun e w' => e = .returned (.bool true) ∧ Below w.heap.size w w' := by
  replace h := hide h.top
  replace g := hide g.top
  go_enter Try.func16, Try.ntmps16
  go_wp2_with fail
  go_loopw [5] (fun i wr => ∃ k : Nat, k ≤ n ∧ i = .int .i64 (k : Nat) ∧ Hid (Below w.heap.size w wr)) (fun i _ => n - (intOf i).toNat)
  case atStart => exact ⟨0, Nat.zero_le _, rfl, Below.refl _ _⟩
  case round =>
    obtain ⟨k, hk, rfl, hb⟩ := hrel
    by_cases hlt : k < n
    · have k0 : (0 : Int) ≤ (k : Int) := by omega
      have k1 : (k : Int) < (n : Int) := by omega
      obtain ⟨b1, o1, x, rfl, -, -, -, hx, c1, -⟩ := SlI.get (Sl.below h.out hb.out (.inl (Nat.le_refl _))) hlt
      obtain ⟨b2, o2, y, rfl, -, -, -, hy, c2, -⟩ := SlI.get (Sl.below g.out hb.out (.inl (Nat.le_refl _))) hlt
      rw [hx] at hy
      cases hy
      have e1 : (x != x) = false := by simp
      clear hx
      go_wp2_with fail
      go_quiet (fail)
      go_wp2_with fail
      go_roundw
      case rel => exact ⟨k + 1, by omega, by go_num, ⟨hb.out.os, hb.out.tape, hb.out.output, hb.out.size, hb.out.block⟩⟩
      case measure => simp [intOf]; omega
    · have k1 : ¬ (k : Int) < (n : Int) := by omega
      go_wp2_with fail
      go_ret
      exact ⟨rfl, hb.out⟩
theorem WinnersOf_g (A : Option Addr) (n c : Nat) (g : DV) (w : World) (hg : GameAt w A n g) (ok : GameOk g) :
    Calls Try.prog 8 #[.slice A n c] w fun e w' => ∃ A' c', e = .returned (.tuple #[.slice A' n c', .int .i64 0]) ∧ SlI w' w.heap.size w'.heap.size A' n (winnersF g) ∧ Below w.heap.size w w' := by
  obtain rfl := hg.len
  have q1 := hide (gameAt_valid (c := c) hg ok)
  have q2 := hide (fun W (hW : Below w.heap.size w W) => winners_calls A c g W (hg.below hW (Nat.le_refl _)) ok)
  clear hg
  go_enter Try.func8, Try.ntmps8
  go_wp2_with fail
  refine q1.out.mono ?_
  rintro e w1 ⟨rfl, hb1⟩
  replace hb1 := hide hb1
  go_wp2_with fail
  refine (q2.out _ hb1.out).mono ?_
  rintro e w2 ⟨A2, c2, rfl, hs, hb2⟩
  have hb3 := hide (hb1.out.trans (hb2.mono hb1.out.size))
  replace hs := hide (hs.more (hb1.out.size) (Nat.le_refl _))
  clear hb2 q1 q2
  go_wp2_with fail
  go_ret2
  exact ⟨_, _, rfl, hs.out, hb3.out⟩
theorem StrategyOf_g (A : Option Addr) (n c : Nat) (g : DV) (w : World) (hg : GameAt w A n g) (ok : GameOk g) :
    Calls Try.prog 9 #[.slice A n c] w fun e w' => ∃ A' c', e = .returned (.tuple #[.slice A' n c', .int .i64 0]) ∧ SlI w' w.heap.size w'.heap.size A' n (stratF g) ∧ Below w.heap.size w w' := by
  have q1 := hide (gameAt_valid (c := c) hg ok)
  have q2 := hide (fun W (hW : Below w.heap.size w W) => strategy_calls A n c g W (hg.below hW (Nat.le_refl _)) ok)
  clear hg
  go_enter Try.func9, Try.ntmps9
  go_wp2_with fail
  refine q1.out.mono ?_
  rintro e w1 ⟨rfl, hb1⟩
  replace hb1 := hide hb1
  go_wp2_with fail
  refine (q2.out _ hb1.out).mono ?_
  rintro e w2 ⟨A2, c2, rfl, hs, hb2⟩
  have hb3 := hide (hb1.out.trans (hb2.mono hb1.out.size))
  replace hs := hide (hs.more (hb1.out.size) (Nat.le_refl _))
  clear hb2 q1 q2
  go_wp2_with fail
  go_ret2
  exact ⟨_, _, rfl, hs.out, hb3.out⟩

/-- Choices, the first k of which are replaced by the better ones. -/
def mixC (best C : List Int) (k : Nat) : List Int := (List.range C.length).map fun v => if v < k ∧ 0 ≤ atC best v then atC best v else atC C v
theorem mixC_len (best C : List Int) (k : Nat) : (mixC best C k).length = C.length := by simp [mixC]
theorem mixC_at {best C : List Int} {k v : Nat} (h : v < C.length) : (mixC best C k)[v]? = some (if v < k ∧ 0 ≤ atC best v then atC best v else atC C v) := by simp [mixC, h]
theorem mixC_zero (best C : List Int) : mixC best C 0 = C := by
  apply List.ext_getElem?
  intro v
  by_cases h : v < C.length
  · rw [mixC_at h, if_neg (by omega), List.getElem?_eq_getElem h, atC_get (List.getElem?_eq_getElem h)]
  · rw [List.getElem?_eq_none (by rw [mixC_len]; omega), List.getElem?_eq_none (by omega)]
theorem mixC_skip {best C : List Int} {k : Nat} (h : ¬ 0 ≤ atC best k) : mixC best C (k + 1) = mixC best C k := by
  apply List.ext_getElem?
  intro v
  by_cases hv : v < C.length
  · rw [mixC_at hv, mixC_at hv]
    by_cases e : v = k
    · subst e; rw [if_neg (fun c => h c.2), if_neg (fun c => h c.2)]
    · by_cases c : v < k ∧ 0 ≤ atC best v
      · rw [if_pos c, if_pos ⟨by omega, c.2⟩]
      · rw [if_neg c, if_neg (fun c' => c ⟨by omega, c'.2⟩)]
  · rw [List.getElem?_eq_none (by rw [mixC_len]; omega), List.getElem?_eq_none (by rw [mixC_len]; omega)]
theorem mixC_set {best C : List Int} {k : Nat} (hk : k < C.length) (h : 0 ≤ atC best k) : (mixC best C k).set k (atC best k) = mixC best C (k + 1) := by
  apply List.ext_getElem?
  intro v
  by_cases hv : v < C.length
  · by_cases e : v = k
    · subst e; rw [List.getElem?_set_self (by rw [mixC_len]; exact hv), mixC_at hv, if_pos ⟨by omega, h⟩]
    · rw [List.getElem?_set_ne (fun e' => e e'.symm), mixC_at hv, mixC_at hv]
      by_cases c : v < k ∧ 0 ≤ atC best v
      · rw [if_pos c, if_pos ⟨by omega, c.2⟩]
      · rw [if_neg c, if_neg (fun c' => c ⟨by omega, c'.2⟩)]
  · rw [List.getElem?_eq_none (by rw [List.length_set, mixC_len]; omega), List.getElem?_eq_none (by rw [mixC_len]; omega)]
theorem mixC_ok {g : DV} (ok : GameOk g) {C : List Int} (hl : C.length = g.length) (h : DrawnC g C g.length) : ChoOk g (mixC (stratF g) C g.length) := by
  have key : ∀ v, v < g.length → atC (mixC (stratF g) C g.length) v = if 0 ≤ atC (stratF g) v then atC (stratF g) v else atC C v := fun v hv => by
    rw [atC_get (mixC_at (by omega))]
    by_cases c : 0 ≤ atC (stratF g) v
    · rw [if_pos c, if_pos ⟨hv, c⟩]
    · rw [if_neg c, if_neg (fun c' => c c'.2)]
  have hbest : ∀ v, v < g.length → gOwn g v = wonI g v → atC (stratF g) v = choW g (v : Int) ∧ choW g (v : Int) ∈ gRaw g v ∧ 0 ≤ choW g (v : Int) := fun v hv hw => by
    obtain ⟨h1, h2, -⟩ := choW_at ok hv hw
    exact ⟨atC_get h1, h2, (ok.raw h2).2.1⟩
  have hnone : ∀ v, v < g.length → gOwn g v ≠ wonI g v → atC (stratF g) v = -1 := fun v hv hw => atC_get (strat_none ok hv hw)
  refine ⟨by rw [mixC_len]; exact hl, fun v hv hr => ?_, fun v hv hr => ?_, fun v hv hw => ?_⟩
  · rw [key v hv]
    by_cases hw : gOwn g v = wonI g v
    · have := (hbest v hv hw).2.1
      rw [hr] at this
      exact (List.not_mem_nil this).elim
    · rw [hnone v hv hw, if_neg (by omega)]
      exact (h v hv).1 hr
  · rw [key v hv]
    by_cases hw : gOwn g v = wonI g v
    · obtain ⟨a, b, c⟩ := hbest v hv hw
      rw [a, if_pos c]; exact b
    · rw [hnone v hv hw, if_neg (by omega)]
      exact (h v hv).2 hr
  · obtain ⟨a, b, c⟩ := hbest v hv hw
    rw [key v hv, a, if_pos c]

end Go.Proofs.Ythmhlbkkhaplkaa

namespace Go.Proofs.Ythmhlbkkhaplkaa
open Go.ChangeShapes Go.WideShapes Go.Deep Go.RowKit
set_option linter.unusedVariables false

theorem u8_wf {n : Int} (h : (Lit.int .u8 n).wf = true) : 0 ≤ n ∧ n ≤ 255 := by
  simp [Lit.wf, IntKind.min, IntKind.max, IntKind.signed, IntKind.bits] at h
  omega
section
variable {H : Type} {enc : TypeId × Value → H} {P : Program} {w : World} {base : Nat} {spare : Nat → Bool} {held : Bool}
theorem open_SlU {t e : TypeId} (ht : P.underlying t = some (.slice e)) (hC : P.cellsOf e = 1) (hi : P.underlying e = some (.int .u8)) {v : Value} {d : DataW H} {p : List MemPlace} (h : DataW.Trod enc P w base spare held t v d p)
    {n' c' : Nat} {A' : Option Addr} (hv : v = .slice A' n' c') (hz : ∀ b off, MemPlace.cell b off ∈ p → w.frozen? ⟨b, off, none⟩ = false) : ∃ A n c l, v = .slice A n c ∧ n ≤ maxLen ∧ SlU w base w.heap.size A n l ∧ ∀ x, x ∈ l → 0 ≤ x ∧ x ≤ 255 := by
  obtain ⟨fuel, hf⟩ := h
  have key := open_flat (w := w) (base := base) (spare := spare) (held := held) (fun x : {n : Int // 0 ≤ n ∧ n ≤ 255} => byv x.1) ht hC (by omega) (fun fuel cs y hy hl => by
    obtain ⟨a, ea, _, hw⟩ := DataW.trod_int hi hy
    exact ⟨⟨a, u8_wf hw⟩, ea⟩) hf hz
  obtain ⟨A, n, c, l, e1, e2, e3⟩ := key
  subst hv
  simp [Value.cells] at e1
  refine ⟨A, n, c, l.map Subtype.val, by simp [e1], e2, ⟨by rw [List.length_map]; exact e3.1, fun hn => ?_⟩, fun x hx => ?_⟩
  · obtain ⟨b, off, q1, q2, q3, q4, q5⟩ := e3.2 hn
    refine ⟨b, off, q1, q2, q3, q4, fun k x hx j u hu => ?_⟩
    rw [List.getElem?_map] at hx
    cases hk : l[k]? with
    | none => rw [hk] at hx; cases hx
    | some y =>
      rw [hk] at hx
      cases hx
      exact q5 k y hk j u hu
  · obtain ⟨y, -, rfl⟩ := List.mem_map.1 hx
    exact y.2
end

end Go.Proofs.Ythmhlbkkhaplkaa
