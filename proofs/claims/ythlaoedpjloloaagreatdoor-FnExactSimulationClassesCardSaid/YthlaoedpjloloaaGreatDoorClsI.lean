/-
  SimulationClasses by the program. Conditions: sizes.
-/
import Derived.Test.YthlaoedpjloloaaGreatDoorLitI
import Derived.Test.YthlaoedpjloloaaGreatDoorNrmI
import Derived.Test.YthlaoedpjloloaaGreatDoorKindLu
import Derived.Test.YthlaoedpjloloaaGreatDoorBaseD
namespace Go.Proofs.YthlaoedpjloloaaGreatDoor
open Go.ChangeShapes Go.WideShapes Go.ChangeAt Go.RowKit
set_option linter.unusedVariables false
set_option linter.unusedSimpArgs false

/-- The list while it is filled: the numbers below k are done, that of k is cur. -/
def lstC (E : Nat → Nat → Bool) (N k cur : Nat) : List Nat := (List.range N).map fun v => if v < k then repE E v else if v = k then cur else v
theorem lstC_len (E : Nat → Nat → Bool) (N k cur : Nat) : (lstC E N k cur).length = N := by simp [lstC]
theorem lstC_get {E : Nat → Nat → Bool} {N k cur : Nat} (h : k < N) : (lstC E N k cur)[k]? = some cur := by simp [lstC, h]
theorem lstC_zero (E : Nat → Nat → Bool) (N : Nat) : lstC E N 0 0 = List.range N := by
  unfold lstC
  refine (List.map_congr_left fun v _ => ?_).trans (List.map_id _)
  rw [if_neg (by omega)]
  split
  · rename_i e; subst e; rfl
  · rfl
theorem lstC_set {E : Nat → Nat → Bool} {N k cur y : Nat} (h : k < N) : (lstC E N k cur).set k y = lstC E N k y := by
  apply List.ext_getElem?
  intro i
  by_cases e : k = i
  · subst e
    rw [List.getElem?_set_self (by rw [lstC_len]; exact h), lstC_get h]
  · rw [List.getElem?_set_ne e]
    by_cases hi : i < N
    · simp only [lstC, List.getElem?_map, List.getElem?_range hi, Option.map_some]
      rw [if_neg (fun g : i = k => e g.symm), if_neg (fun g : i = k => e g.symm)]
    · rw [List.getElem?_eq_none (by rw [lstC_len]; omega), List.getElem?_eq_none (by rw [lstC_len]; omega)]
theorem lstC_next {E : Nat → Nat → Bool} {N k : Nat} : lstC E N k (repE E k) = lstC E N (k + 1) (k + 1) := by
  unfold lstC
  refine List.map_congr_left fun v _ => ?_
  by_cases h1 : v < k
  · rw [if_pos h1, if_pos (by omega)]
  · rw [if_neg h1]
    by_cases h2 : v = k
    · subst h2
      rw [if_pos rfl, if_pos (by omega)]
    · rw [if_neg h2, if_neg (by omega)]
      split
      · rename_i e; exact e
      · rfl
theorem lstC_all {E : Nat → Nat → Bool} {N x : Nat} : lstC E N N x = (List.range N).map (repE E) := by
  unfold lstC
  refine List.map_congr_left fun v hv => ?_
  rw [if_pos (List.mem_range.1 hv)]
theorem repE_le (E : Nat → Nat → Bool) (k : Nat) : repE E k ≤ k := by
  unfold repE
  cases hf : (List.range k).find? (E k) with
  | none => exact Nat.le_refl _
  | some i => exact Nat.le_of_lt (List.mem_range.1 (List.mem_of_find?_eq_some hf))
def curE (E : Nat → Nat → Bool) (k j : Nat) : Nat := ((List.range j).find? (E k)).getD k
theorem curE_zero (E : Nat → Nat → Bool) (k : Nat) : curE E k 0 = k := rfl
theorem curE_all (E : Nat → Nat → Bool) (k : Nat) : curE E k k = repE E k := rfl
theorem curE_cases (E : Nat → Nat → Bool) (k j : Nat) : curE E k j = k ∧ (List.range j).find? (E k) = none ∨ curE E k j < j ∧ ∃ i, (List.range j).find? (E k) = some i ∧ curE E k j = i := by
  unfold curE
  cases hf : (List.range j).find? (E k) with
  | none => exact .inl ⟨rfl, rfl⟩
  | some i => exact .inr ⟨List.mem_range.1 (List.mem_of_find?_eq_some hf), i, rfl, rfl⟩
theorem curE_old {E : Nat → Nat → Bool} {k j : Nat} (h : E k j = false ∨ curE E k j < j) (hj : j < k) : curE E k (j + 1) = curE E k j := by
  rcases curE_cases E k j with ⟨h1, h2⟩ | ⟨h1, i, h2, h3⟩
  · rcases h with h | h
    · unfold curE
      rw [List.range_succ, List.find?_append, h2]
      simp [h]
    · omega
  · unfold curE
    rw [List.range_succ, List.find?_append, h2]
    rfl
theorem curE_min {E : Nat → Nat → Bool} {k j : Nat} (h : E k j = true) (hj : j < k) : min ((curE E k j : Nat) : Int) (j : Int) = ((curE E k (j + 1) : Nat) : Int) := by
  by_cases hc : curE E k j < j
  · rw [curE_old (.inr hc) hj, Int.min_eq_left (by omega)]
  · have h1 : curE E k (j + 1) = j := by
      rcases curE_cases E k j with ⟨h1, h2⟩ | ⟨h1, i, h2, h3⟩
      · unfold curE
        rw [List.range_succ, List.find?_append, h2]
        simp [h]
      · omega
    rw [h1, Int.min_eq_right (by omega)]
theorem curE_new {E : Nat → Nat → Bool} {k j : Nat} (h : E k j = true) (hc : ¬ curE E k j < j) : curE E k (j + 1) = j := by
  rcases curE_cases E k j with ⟨h1, h2⟩ | ⟨h1, i, h2, h3⟩
  · unfold curE
    rw [List.range_succ, List.find?_append, h2]
    simp [h]
  · omega

/-- Where the list of classes stands. -/
structure ClsS (w w5 wr : World) (m : Nat) (S : List PQ2) (b off N : Nat) (l : List Nat) : Prop where
  set : PSet wr m S
  sl : SlI wr w5.heap.size wr.heap.size (some ⟨b, off, none⟩) N (l.map Int.ofNat)
  bel : Below w5.heap.size w5 wr

set_option maxRecDepth 100000 in
set_option maxHeartbeats 3200000 in
theorem simClasses_calls (N : Nat) (s1 : Int) (A2 : Option Addr) (n2 k2 : Nat) (A3 : Option Addr) (n3 k3 : Nat) (ls : List ByteArray) (es : List Ed) (w : World) (hD : SimD w w.heap.size (N : Int) s1 A2 n2 k2 A3 n3 k3 (N : Int) s1 A2 n2 k2 A3 n3 k3 ls es ls es) :
    Calls Tryz.prog 64 #[.agg #[.int .i64 (N : Int), .int .i64 s1, .slice A2 n2 k2, .slice A3 n3 k3]] w fun e w' => ∃ B, e = .returned (.slice (some ⟨B, 0, none⟩) N N) ∧ SlI w' w.heap.size w'.heap.size (some ⟨B, 0, none⟩) N (clsE (mutE (selfR (N : Int) es ls)) N).1 ∧ Below w.heap.size w w' := by
  have hb40 := (lts_boundsB hD.ht).1
  have hN40 : N ≤ 40 := by omega
  have hb0 : Below w.heap.size w (w.alloc (.cells #[.int .i64 (N : Int), .int .i64 s1, .slice A2 n2 k2, .slice A3 n3 k3] 31)) := (Below.refl _ _).alloc (Nat.le_refl _) _
  have k0 := heap_alloc_new w (.cells #[.int .i64 (N : Int), .int .i64 s1, .slice A2 n2 k2, .slice A3 n3 k3] 31)
  have hk0 := (Array.getElem?_eq_some_iff.1 k0).1
  have hD0 := hD.below hb0 (Nat.le_refl _)
  have q1 := hide (below_calls N (N : Int) s1 A2 n2 k2 A3 n3 k3 ls es (w.alloc (.cells #[.int .i64 (N : Int), .int .i64 s1, .slice A2 n2 k2, .slice A3 n3 k3] 31)) ⟨hD0.t2.more (Nat.le_refl _) hb0.size, hD0.t3.more (Nat.le_refl _) hb0.size, hD0.u2.more (Nat.le_refl _) hb0.size, hD0.u3.more (Nat.le_refl _) hb0.size, hD0.hes, hD0.hfs, hD0.ht, hD0.hp⟩ rfl)
  have q2 := hide fun (W : World) => upToN_calls N (by omega) W
  have a0 := (cell_of_row _ _ 0 _ _ (0, 0) k0).trans (show _ = some (Value.int .i64 (N : Int)) from rfl)
  have a1 := (cell_of_row _ _ 1 _ _ (0, 0) k0).trans (show _ = some (Value.int .i64 s1) from rfl)
  have a2 := (cell_of_row _ _ 2 _ _ (0, 0) k0).trans (show _ = some (Value.slice A2 n2 k2) from rfl)
  have a3 := (cell_of_row _ _ 3 _ _ (0, 0) k0).trans (show _ = some (Value.slice A3 n3 k3) from rfl)
  have hzs := hb0.size
  replace hb0 := hide hb0
  replace k0 := hide k0
  clear hD hD0
  go_enter Tryz.func64, Tryz.ntmps64
  go_upto_region 1 with fail
  generalize (w.alloc (.cells #[.int .i64 (N : Int), .int .i64 s1, .slice A2 n2 k2, .slice A3 n3 k3] 31)) = W0 at *
  go_upto_region 2 with (first | (go_at_call 97; (with_reducible refine q1.out.mono ?_); rintro e w4 ⟨m, S, rfl, hS4, hm4, hi4, hst4, hb4⟩; have d0 := (hb4.cell (p := ⟨w.heap.size, 0, none⟩) hk0).trans a0; have q3 := hide (q2.out w4)))
  have hbw4 := hide (hb0.out.trans (hb4.mono hzs))
  have hk4 := Nat.lt_of_lt_of_le hk0 hb4.size
  have hmlt := hS4.lt
  obtain ⟨r4, hst4⟩ := hst4
  have hTr : Hid (∀ x y z, selfR (N : Int) es ls x y → selfR (N : Int) es ls y z → selfR (N : Int) es ls x z) := fun x y z => gsR_trans hst4
  replace hi4 := hide hi4
  clear q1 q2 a0 a1 a2 a3 hb4 hst4
  go_upto_region 3 with (first | (go_at_call 100; (with_reducible refine q3.out.mono ?_); rintro e w5 ⟨A5, c5, rfl, ho5, hb5⟩; have e0 := (hb5.cell (p := ⟨w.heap.size, 0, none⟩) hk4).trans d0))
  have hsl5 := ho5.sl flat_iv
  obtain ⟨b, off, x5, rfl, hlb, -, -, -, -, -⟩ := SlI.get hsl5 (show 0 < N by omega)
  have hst : Hid (ClsS w w4 w5 m S b off N (lstC (mutE (selfR (N : Int) es ls)) N 0 0)) := ⟨hS4.below hb5, by rw [lstC_zero]; exact hsl5, hb5⟩
  have hml : m < w4.heap.size := hmlt
  clear q3 d0 ho5 hsl5 hS4 hmlt
  go_upto_region 4 with fail
  clear e0
  go_loopg [14] N (fun J i wr => ∃ k : Nat, k ≤ N ∧ i = .int .i64 (k : Int) ∧ Hid (ClsS w w4 wr m S b off N (lstC (mutE (selfR (N : Int) es ls)) N k k)) ∧ Hid (N - k ≤ J))
  case atStart => exact ⟨0, Nat.zero_le _, rfl, hst, by show _ ≤ _; omega⟩
  case round =>
    clear hst
    obtain ⟨k, hk, rfl, hs, hJ⟩ := hrel
    by_cases hkl : k < N
    · obtain ⟨J2, rfl⟩ : ∃ J2, gk = J2 + 1 := ⟨gk - 1, by have := hJ.out; omega⟩
      have hJ2 : Hid (N - (k + 1) ≤ J2) := by have := hJ.out; show _ ≤ _; omega
      have hX0 : (0 : Int) ≤ (k : Int) := by omega
      have hX1 : (k : Int) < (N : Int) := by omega
      go_upto_region 7 with fail
      go_loopg [18] k (fun G i wr => ∃ j : Nat, j ≤ k ∧ i = .int .i64 (j : Int) ∧ Hid (ClsS w w4 wr m S b off N (lstC (mutE (selfR (N : Int) es ls)) N k (curE (mutE (selfR (N : Int) es ls)) k j))) ∧ Hid (k - j ≤ G))
      case atStart => exact ⟨0, Nat.zero_le _, rfl, hs, by show _ ≤ _; omega⟩
      case round =>
        clear hs
        obtain ⟨j, hj, rfl, hs, hG⟩ := hrel
        by_cases hjl : j < k
        · obtain ⟨G2, rfl⟩ : ∃ G2, gk = G2 + 1 := ⟨gk - 1, by have := hG.out; omega⟩
          have hG2 : Hid (k - (j + 1) ≤ G2) := by have := hG.out; show _ ≤ _; omega
          have hY0 : (0 : Int) ≤ (j : Int) := by omega
          have hY1 : (j : Int) < (k : Int) := by omega
          have hl1 : (Instr.lookup 76 (.map (some m)) (.agg #[.int .i64 (k : Int), .int .i64 (j : Int)]) false).run Tryz.prog wr = .ok (.bool (decide (((k : Int), (j : Int)) ∈ S))) wr := hs.out.set.look (q := ((k : Int), (j : Int))) (show fitP ((k : Int), (j : Int)) from fit_of (by omega) (by omega) (by omega) (by omega))
          have hl2 : (Instr.lookup 76 (.map (some m)) (.agg #[.int .i64 (j : Int), .int .i64 (k : Int)]) false).run Tryz.prog wr = .ok (.bool (decide (((j : Int), (k : Int)) ∈ S))) wr := hs.out.set.look (q := ((j : Int), (k : Int))) (show fitP ((j : Int), (k : Int)) from fit_of (by omega) (by omega) (by omega) (by omega))
          have hE : mutE (selfR (N : Int) es ls) k j = (decide (((k : Int), (j : Int)) ∈ S) && decide (((j : Int), (k : Int)) ∈ S)) := by
            unfold mutE
            congr 1
            · exact decide_eq_decide.2 (hi4.out _ _).symm
            · exact decide_eq_decide.2 (hi4.out _ _).symm
          generalize decide (((k : Int), (j : Int)) ∈ S) = x1 at *
          generalize decide (((j : Int), (k : Int)) ∈ S) = x2 at *
          by_cases hx : (x1 && x2) = true
          · rw [Bool.and_eq_true] at hx
            obtain ⟨rfl, rfl⟩ := hx
            have hE' : mutE (selfR (N : Int) es ls) k j = true := hE
            obtain ⟨b', off', u, e9, -, -, g3, hu, p0, p1⟩ := SlI.get hs.out.sl hkl
            injection e9 with e9
            injection e9 with e9 e8
            subst e9 e8
            rw [List.getElem?_map, lstC_get hkl] at hu
            have hu := Option.some.inj hu
            replace p0 : wr.cell? ⟨b, off + k, none⟩ = some (.int .i64 ((curE (mutE (selfR (N : Int) es ls)) k j : Nat) : Int)) := by rw [p0, ← hu]; rfl
            have hput := SlI.put' hs.out.sl hkl (min ((curE (mutE (selfR (N : Int) es ls)) k j : Nat) : Int) (j : Int))
            have hset : ((lstC (mutE (selfR (N : Int) es ls)) N k (curE (mutE (selfR (N : Int) es ls)) k j)).map Int.ofNat).set k (min ((curE (mutE (selfR (N : Int) es ls)) k j : Nat) : Int) (j : Int)) = (lstC (mutE (selfR (N : Int) es ls)) N k (curE (mutE (selfR (N : Int) es ls)) k (j + 1))).map Int.ofNat := by
              have h9 := congrArg (List.map Int.ofNat) (lstC_set (E := mutE (selfR (N : Int) es ls)) (cur := curE (mutE (selfR (N : Int) es ls)) k j) (y := curE (mutE (selfR (N : Int) es ls)) k (j + 1)) hkl)
              rw [List.map_set] at h9
              rw [curE_min hE' hjl]
              exact h9
            have hsn : Hid (ClsS w w4 (wr.setCell ⟨b, off + k, none⟩ (.int .i64 (min ((curE (mutE (selfR (N : Int) es ls)) k j : Nat) : Int) (j : Int)))) m S b off N (lstC (mutE (selfR (N : Int) es ls)) N k (curE (mutE (selfR (N : Int) es ls)) k (j + 1)))) := by
              refine ⟨hs.out.set.keep (Below.heap_setCell _ _ _ _ (by show m ≠ b; omega)), ?_, hs.out.bel.setCell (by show w4.heap.size ≤ b; omega) _⟩
              rw [World.size_setCell, ← hset]
              exact hput
            clear hs hE hE' hu hput hset
            go_wp2_with fail
            go_roundg G2
            case measure => omega
            case rel => exact ⟨j + 1, by omega, by go_num, hsn, hG2⟩
          · have hE' : mutE (selfR (N : Int) es ls) k j = false := by rw [hE]; exact Bool.eq_false_iff.2 hx
            have hcur := curE_old (E := mutE (selfR (N : Int) es ls)) (.inl hE') hjl
            have hsn : Hid (ClsS w w4 wr m S b off N (lstC (mutE (selfR (N : Int) es ls)) N k (curE (mutE (selfR (N : Int) es ls)) k (j + 1)))) := by show ClsS _ _ _ _ _ _ _ _ _; rw [hcur]; exact hs.out
            clear hE hE' hcur hs
            cases x1 with
            | true =>
              have hx2 : x2 = false := by cases x2 with | false => rfl | true => exact absurd rfl hx
              subst hx2
              clear hx
              go_wp2_with fail
              go_roundg G2
              case measure => omega
              case rel => exact ⟨j + 1, by omega, by go_num, hsn, hG2⟩
            | false =>
              clear hx
              go_wp2_with fail
              go_roundg G2
              case measure => omega
              case rel => exact ⟨j + 1, by omega, by go_num, hsn, hG2⟩
        · have hjk : j = k := by omega
          subst hjk
          have hsn : Hid (ClsS w w4 wr m S b off N (lstC (mutE (selfR (N : Int) es ls)) N (j + 1) (j + 1))) := by show ClsS _ _ _ _ _ _ _ _ _; rw [← lstC_next, ← curE_all]; exact hs.out
          clear hs
          go_wp2_with fail
          go_roundg J2
          case measure => omega
          case rel => exact ⟨j + 1, by omega, by go_num, hsn, hJ2⟩
    · have hkn : k = N := by omega
      subst hkn
      have hsl := hs.out.sl
      rw [lstC_all] at hsl
      have q5 := hide (normal_calls (some ⟨b, off, none⟩) k c5 _ wr _ _ hsl (by omega) fun x hx => by
        obtain ⟨v, hv, rfl⟩ := List.mem_map.1 hx
        have h1 := repE_le (mutE (selfR (k : Int) es ls)) v
        have h2 := List.mem_range.1 hv
        omega)
      have hcl : Hid ((nrmE ((List.range k).map (repE (mutE (selfR (k : Int) es ls)))) k).1 = (clsE (mutE (selfR (k : Int) es ls)) k).1) := by
        refine (nrm_cls (fun a b h => ?_) (fun a b c h1 h2 => ?_) k k (Nat.le_refl _)).1
        · unfold mutE at h ⊢
          rw [Bool.and_comm]
          exact h
        · unfold mutE at h1 h2 ⊢
          simp only [Bool.and_eq_true, decide_eq_true_eq] at h1 h2 ⊢
          exact ⟨hTr.out _ _ _ h1.1 h2.1, hTr.out _ _ _ h2.2 h1.2⟩
      have hbw := hide (hbw4.out.trans (hs.out.bel.mono hbw4.out.size))
      clear hs hsl
      go_wp2_with (first | (go_at_call 101; (with_reducible refine q5.out.mono ?_); rintro e w7 ⟨B7, rfl, hs7, hb7⟩; replace hs7 := hide hs7; replace hb7 := hide hb7))
      go_ret
      exact ⟨B7, rfl, by rw [← hcl.out]; exact hs7.out.more hbw.out.size (Nat.le_refl _), hbw.out.trans (hb7.out.mono hbw.out.size)⟩

set_option maxRecDepth 100000 in
set_option maxHeartbeats 3200000 in
theorem implSimulationClasses_u {v : Value} {d : DL} {w : World} {lo hi : Nat} (he : Env w) (h : FreshL w lo hi v d) (hh : hi ≤ w.heap.size) :
    Calls Tryz.prog 34 #[v] w fun e w' => ∃ u, e = .returned (.tuple #[u, .int .i64 (clsF d).2]) ∧ ResI w' w.heap.size w'.heap.size u (clsF d).1 ∧ Below w.heap.size w w' := by
  obtain ⟨⟨⟨s0, s1, v2, v3⟩, rfl, hL⟩, ht⟩ := h
  obtain ⟨st, ini, ls, es⟩ := d
  have hL' := hL
  obtain ⟨e0, e1, ⟨A2, n2, k2, e2, hn2, hs2, t2⟩, ⟨A3, n3, k3, e3, hn3, t3⟩⟩ := hL
  dsimp only at *
  subst e0 e1 e2 e3
  have hes : n3 ≤ 1048576 := by rw [← t3.len]; exact Nat.le_trans (totL_edg (s0, s1, ls, es)) ht
  have hb0 : Below w.heap.size w (w.alloc (.cells #[.int .i64 s0, .int .i64 s1, .slice A2 n2 k2, .slice A3 n3 k3] 31)) := (Below.refl _ _).alloc (Nat.le_refl _) _
  have k0 := heap_alloc_new w (.cells #[.int .i64 s0, .int .i64 s1, .slice A2 n2 k2, .slice A3 n3 k3] 31)
  have hk0 := (Array.getElem?_eq_some_iff.1 k0).1
  have q1 := validLts_calls _ (s0, s1, ls, es) _ lo hi (hL'.below hb0 (.inr (Nat.le_refl _))) ht (he.below hb0 (Nat.le_refl _))
  dsimp only at q1
  have a0 := (cell_of_row _ _ 0 _ _ (0, 0) k0).trans (show _ = some (Value.int .i64 s0) from rfl)
  have a1 := (cell_of_row _ _ 1 _ _ (0, 0) k0).trans (show _ = some (Value.int .i64 s1) from rfl)
  have a2 := (cell_of_row _ _ 2 _ _ (0, 0) k0).trans (show _ = some (Value.slice A2 n2 k2) from rfl)
  have a3 := (cell_of_row _ _ 3 _ _ (0, 0) k0).trans (show _ = some (Value.slice A3 n3 k3) from rfl)
  have hzs := hb0.size
  clear hL' hs2 he hn2 hn3
  cases hv : ltsV (s0, s1, ls, es) with
  | false =>
    rw [hv] at q1
    replace q1 := hide q1
    have hval : Hid (clsF (s0, s1, ls, es) = ([], 1)) := by show _ = _; unfold clsF; rw [hv]; rfl
    replace hb0 := hide hb0
    clear hv t2 t3 k0
    go_enter Tryz.func34, Tryz.ntmps34
    go_upto_region 1 with fail
    generalize (w.alloc (.cells #[.int .i64 s0, .int .i64 s1, .slice A2 n2 k2, .slice A3 n3 k3] 31)) = W0 at *
    go_wp2_with (first | (go_at_call 59; (with_reducible refine q1.out.mono ?_); rintro e w5 ⟨rfl, hb5⟩; replace hb5 := hide hb5))
    go_ret2
    exact ⟨.slice none 0 0, by rw [hval.out]; rfl, by rw [hval.out]; exact ⟨none, 0, 0, rfl, by omega, Sl.nil_⟩, hb0.out.trans (hb5.out.mono hzs)⟩
  | true =>
    rw [hv] at q1
    replace q1 := hide q1
    have hb40 := (lts_boundsB hv).1
    obtain ⟨N, rfl⟩ : ∃ N : Nat, s0 = (N : Int) := ⟨s0.toNat, by omega⟩
    have hN40 : N ≤ 40 := by omega
    have hD : SimD w w.heap.size (N : Int) s1 A2 n2 k2 A3 n3 k3 (N : Int) s1 A2 n2 k2 A3 n3 k3 ls es ls es := ⟨t2.more (Nat.zero_le _) hh, t3.more (Nat.zero_le _) hh, t2.more (Nat.zero_le _) hh, t3.more (Nat.zero_le _) hh, hes, hes, hv, hv⟩
    have hval : Hid (clsF ((N : Int), s1, ls, es) = ((clsE (mutE (selfR (N : Int) es ls)) N).1, 0)) := by show _ = _; unfold clsF; rw [if_pos hv]; simp only [Int.toNat_natCast]
    have qb := hide fun (W : World) (hW : Below w.heap.size w W) (hs : w.heap.size ≤ W.heap.size) => simClasses_calls N s1 A2 n2 k2 A3 n3 k3 ls es W ⟨(hD.below hW (Nat.le_refl _)).t2.more (Nat.le_refl _) hs, (hD.below hW (Nat.le_refl _)).t3.more (Nat.le_refl _) hs, (hD.below hW (Nat.le_refl _)).u2.more (Nat.le_refl _) hs, (hD.below hW (Nat.le_refl _)).u3.more (Nat.le_refl _) hs, hes, hes, hv, hv⟩
    replace hb0 := hide hb0
    clear hv t2 t3 hD hb40 k0
    go_enter Tryz.func34, Tryz.ntmps34
    go_upto_region 1 with fail
    generalize (w.alloc (.cells #[.int .i64 (N : Int), .int .i64 s1, .slice A2 n2 k2, .slice A3 n3 k3] 31)) = W0 at *
    go_wp2_with (first | (go_at_call 59; (with_reducible refine q1.out.mono ?_); rintro e w5 ⟨rfl, hb5⟩; have d0 := (hb5.cell (p := ⟨w.heap.size, 0, none⟩) hk0).trans a0; have d1 := (hb5.cell (p := ⟨w.heap.size, 1, none⟩) hk0).trans a1; have d2 := (hb5.cell (p := ⟨w.heap.size, 2, none⟩) hk0).trans a2; have d3 := (hb5.cell (p := ⟨w.heap.size, 3, none⟩) hk0).trans a3; have hbw := hide (hb0.out.trans (hb5.mono hzs)); have q2 := hide (qb.out w5 hbw.out hbw.out.size); clear q1 hb5) | (go_at_call 64; (with_reducible refine q2.out.mono ?_); rintro e w6 ⟨B6, rfl, hs6, hb6⟩; replace hs6 := hide hs6; replace hb6 := hide hb6))
    go_ret2
    exact ⟨.slice (some ⟨B6, 0, none⟩) N N, by rw [hval.out]; rfl, by rw [hval.out]; exact ⟨_, _, _, rfl, by omega, hs6.out.more hbw.out.size (Nat.le_refl _)⟩, hbw.out.trans (hb6.out.mono hbw.out.size)⟩

end Go.Proofs.YthlaoedpjloloaaGreatDoor
