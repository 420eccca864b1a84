/-
  The test of two systems and a kind, by the program. Conditions: sizes.
-/
import Derived.Test.YthlaoedpjloloaaGreatDoorSimM
import Derived.Test.YthlaoedpjloloaaGreatDoorBaseD
namespace Go.Proofs.YthlaoedpjloloaaGreatDoor
open Go.ChangeShapes Go.WideShapes Go.ChangeAt Go.RowKit Go.Sort
set_option linter.unusedVariables false
set_option linter.unusedSimpArgs false

def simC (d s : DL) (K : Int) : Int := if ltsV d = true ∧ ltsV s = true then (if inB K 0 2 = true then 0 else 2) else 1
theorem kindOk_calls (K : Int) (w : World) : Calls Tryz.prog 70 #[.int .i64 K] w fun e w' => e = .returned (.bool (inB K 0 2)) ∧ w = w' := by
  have q := hide (within_calls K 0 2 w)
  go_enter Tryz.func70, Tryz.ntmps70
  go_wp2_with (first | (go_at_call 84; (with_reducible refine q.out.mono ?_); rintro e w5 ⟨rfl, rfl⟩))
  go_ret
  exact ⟨rfl, rfl⟩

set_option maxRecDepth 100000 in
set_option maxHeartbeats 1600000 in
theorem simCode_calls (K : Int) (s0 s1 : Int) (v2 v3 : Value) (r0 r1 : Int) (u2 u3 : Value) (d s : DL) (w : World) (lo hi lo' hi' : Nat) (h : ReadL w lo hi (s0, s1, v2, v3) d) (g : ReadL w lo' hi' (r0, r1, u2, u3) s) (ht : totL d ≤ 1048576) (gt : totL s ≤ 1048576) (he : Env w) :
    Calls Tryz.prog 45 #[.agg #[.int .i64 s0, .int .i64 s1, v2, v3], .agg #[.int .i64 r0, .int .i64 r1, u2, u3], .int .i64 K] w fun e w' => e = .returned (.int .i64 (simC d s K)) ∧ Below w.heap.size w w' := by
  obtain ⟨A2, n2, k2, e2⟩ := h.2.2.1.shape
  obtain ⟨A3, n3, k3, e3⟩ := h.2.2.2.shape
  obtain ⟨B2, m2, j2, f2⟩ := g.2.2.1.shape
  obtain ⟨B3, m3, j3, f3⟩ := g.2.2.2.shape
  dsimp only at e2 e3 f2 f3
  subst e2 e3 f2 f3
  have hz1 : (w.alloc (.cells #[.int .i64 s0, .int .i64 s1, .slice A2 n2 k2, .slice A3 n3 k3] 31)).heap.size = w.heap.size + 1 := World.size_alloc _ _
  have hb0 : Below w.heap.size w ((w.alloc (.cells #[.int .i64 s0, .int .i64 s1, .slice A2 n2 k2, .slice A3 n3 k3] 31)).alloc (.cells #[.int .i64 r0, .int .i64 r1, .slice B2 m2 j2, .slice B3 m3 j3] 31)) := ((Below.refl _ _).alloc (Nat.le_refl _) _).alloc (by omega) _
  have k1 := heap_alloc_new (w.alloc (.cells #[.int .i64 s0, .int .i64 s1, .slice A2 n2 k2, .slice A3 n3 k3] 31)) (.cells #[.int .i64 r0, .int .i64 r1, .slice B2 m2 j2, .slice B3 m3 j3] 31)
  rw [hz1] at k1
  have k0 := (Below.heap_alloc (w.alloc (.cells #[.int .i64 s0, .int .i64 s1, .slice A2 n2 k2, .slice A3 n3 k3] 31)) (.cells #[.int .i64 r0, .int .i64 r1, .slice B2 m2 j2, .slice B3 m3 j3] 31) w.heap.size (by omega)).trans (heap_alloc_new w (.cells #[.int .i64 s0, .int .i64 s1, .slice A2 n2 k2, .slice A3 n3 k3] 31))
  have hbt : w.heap.size + 1 < ((w.alloc (.cells #[.int .i64 s0, .int .i64 s1, .slice A2 n2 k2, .slice A3 n3 k3] 31)).alloc (.cells #[.int .i64 r0, .int .i64 r1, .slice B2 m2 j2, .slice B3 m3 j3] 31)).heap.size := by rw [World.size_alloc, hz1]; omega
  have q1 := validLts_calls _ d _ lo hi (h.below hb0 (.inr (Nat.le_refl _))) ht (he.below hb0 (Nat.le_refl _))
  have q2 := fun (W : World) (hW : Below ((w.alloc (.cells #[.int .i64 s0, .int .i64 s1, .slice A2 n2 k2, .slice A3 n3 k3] 31)).alloc (.cells #[.int .i64 r0, .int .i64 r1, .slice B2 m2 j2, .slice B3 m3 j3] 31)).heap.size ((w.alloc (.cells #[.int .i64 s0, .int .i64 s1, .slice A2 n2 k2, .slice A3 n3 k3] 31)).alloc (.cells #[.int .i64 r0, .int .i64 r1, .slice B2 m2 j2, .slice B3 m3 j3] 31)) W) => validLts_calls _ s W lo' hi' ((g.below hb0 (.inr (Nat.le_refl _))).below hW (.inr (Nat.le_refl _))) gt ((he.below hb0 (Nat.le_refl _)).below hW (Nat.le_refl _))
  have q3 := fun (W : World) => kindOk_calls K W
  dsimp only at q1 q2
  have c0 : ((w.alloc (.cells #[.int .i64 s0, .int .i64 s1, .slice A2 n2 k2, .slice A3 n3 k3] 31)).alloc (.cells #[.int .i64 r0, .int .i64 r1, .slice B2 m2 j2, .slice B3 m3 j3] 31)).cell? ⟨w.heap.size, 0, none⟩ = some (.int .i64 s0) := (cell_of_row _ _ 0 _ _ (0, 0) k0).trans rfl
  have c1 : ((w.alloc (.cells #[.int .i64 s0, .int .i64 s1, .slice A2 n2 k2, .slice A3 n3 k3] 31)).alloc (.cells #[.int .i64 r0, .int .i64 r1, .slice B2 m2 j2, .slice B3 m3 j3] 31)).cell? ⟨w.heap.size, 1, none⟩ = some (.int .i64 s1) := (cell_of_row _ _ 1 _ _ (0, 0) k0).trans rfl
  have c2 : ((w.alloc (.cells #[.int .i64 s0, .int .i64 s1, .slice A2 n2 k2, .slice A3 n3 k3] 31)).alloc (.cells #[.int .i64 r0, .int .i64 r1, .slice B2 m2 j2, .slice B3 m3 j3] 31)).cell? ⟨w.heap.size, 2, none⟩ = some (.slice A2 n2 k2) := (cell_of_row _ _ 2 _ _ (0, 0) k0).trans rfl
  have c3 : ((w.alloc (.cells #[.int .i64 s0, .int .i64 s1, .slice A2 n2 k2, .slice A3 n3 k3] 31)).alloc (.cells #[.int .i64 r0, .int .i64 r1, .slice B2 m2 j2, .slice B3 m3 j3] 31)).cell? ⟨w.heap.size, 3, none⟩ = some (.slice A3 n3 k3) := (cell_of_row _ _ 3 _ _ (0, 0) k0).trans rfl
  have hzs := hb0.size
  have hob : Hid (simC d s K = if ltsV d = true ∧ ltsV s = true then (if inB K 0 2 = true then 0 else 2) else 1) := rfl
  replace k1 := hide k1
  replace hb0 := hide hb0
  clear k0 h g he hz1
  have hcells : Hid (∀ W, Below ((w.alloc (.cells #[.int .i64 s0, .int .i64 s1, .slice A2 n2 k2, .slice A3 n3 k3] 31)).alloc (.cells #[.int .i64 r0, .int .i64 r1, .slice B2 m2 j2, .slice B3 m3 j3] 31)).heap.size ((w.alloc (.cells #[.int .i64 s0, .int .i64 s1, .slice A2 n2 k2, .slice A3 n3 k3] 31)).alloc (.cells #[.int .i64 r0, .int .i64 r1, .slice B2 m2 j2, .slice B3 m3 j3] 31)) W → W.cell? ⟨w.heap.size + 1, 0, none⟩ = some (.int .i64 r0) ∧ W.cell? ⟨w.heap.size + 1, 1, none⟩ = some (.int .i64 r1) ∧ W.cell? ⟨w.heap.size + 1, 2, none⟩ = some (.slice B2 m2 j2) ∧ W.cell? ⟨w.heap.size + 1, 3, none⟩ = some (.slice B3 m3 j3)) := fun W hW => by
    have k := (hW.block _ hbt).trans k1.out
    exact ⟨(cell_of_row _ _ 0 _ _ (0, 0) k).trans rfl, (cell_of_row _ _ 1 _ _ (0, 0) k).trans rfl, (cell_of_row _ _ 2 _ _ (0, 0) k).trans rfl, (cell_of_row _ _ 3 _ _ (0, 0) k).trans rfl⟩
  clear k1
  cases hd : ltsV d with
  | false =>
    rw [hd] at q1 hob
    replace q1 := hide q1
    replace hob : Hid (simC d s K = 1) := hob.out.trans (if_neg (by simp))
    clear hd q2 q3
    go_enter Tryz.func45, Tryz.ntmps45
    go_wp2_with (first | (go_at_call 59; (with_reducible refine q1.out.mono ?_); rintro e w5 ⟨rfl, hb5⟩; replace hb5 := hide hb5))
    go_ret
    exact ⟨ret_i (by rw [hob.out]), hb0.out.trans (hb5.out.mono hzs)⟩
  | true =>
    rw [hd] at q1 hob
    replace q1 := hide q1
    clear hd
    cases hs : ltsV s with
    | false =>
      rw [hs] at q2 hob
      replace q2 := hide q2
      replace hob : Hid (simC d s K = 1) := hob.out.trans (if_neg (by simp))
      clear hs q3
      go_enter Tryz.func45, Tryz.ntmps45
      go_wp2_with (first | (go_at_call 59; (with_reducible refine q1.out.mono ?_); rintro e w5 ⟨rfl, hb5⟩; obtain ⟨d0, d1, d2, d3⟩ := hcells.out w5 hb5; have q4 := hide (q2.out w5 hb5); clear q1; replace hb5 := hide hb5) | (go_at_call 59; (with_reducible refine q4.out.mono ?_); rintro e w6 ⟨rfl, hb6⟩; replace hb6 := hide hb6))
      go_ret
      exact ⟨ret_i (by rw [hob.out]), (hb0.out.trans (hb5.out.mono hzs)).trans (hb6.out.mono (Nat.le_trans hzs hb5.out.size))⟩
    | true =>
      rw [hs] at q2 hob
      replace q2 := hide q2
      clear hs
      cases hp : inB K 0 2 with
      | false =>
        rw [hp] at q3 hob
        replace q3 := hide q3
        replace hob : Hid (simC d s K = 2) := hob.out
        clear hp
        go_enter Tryz.func45, Tryz.ntmps45
        go_wp2_with (first | (go_at_call 59; (with_reducible refine q1.out.mono ?_); rintro e w5 ⟨rfl, hb5⟩; obtain ⟨d0, d1, d2, d3⟩ := hcells.out w5 hb5; have q4 := hide (q2.out w5 hb5); clear q1; replace hb5 := hide hb5) | (go_at_call 59; (with_reducible refine q4.out.mono ?_); rintro e w6 ⟨rfl, hb6⟩; have hb7 := hb5.out.trans (hb6.mono hb5.out.size); have q5 := hide (q3.out w6); clear q4; replace hb7 := hide hb7; clear hb6) | (go_at_call 70; (with_reducible refine q5.out.mono ?_); rintro e w8 ⟨rfl, rfl⟩))
        go_ret
        exact ⟨ret_i (by rw [hob.out]), hb0.out.trans (hb7.out.mono hzs)⟩
      | true =>
        rw [hp] at q3 hob
        replace q3 := hide q3
        replace hob : Hid (simC d s K = 0) := hob.out
        clear hp
        go_enter Tryz.func45, Tryz.ntmps45
        go_wp2_with (first | (go_at_call 59; (with_reducible refine q1.out.mono ?_); rintro e w5 ⟨rfl, hb5⟩; obtain ⟨d0, d1, d2, d3⟩ := hcells.out w5 hb5; have q4 := hide (q2.out w5 hb5); clear q1; replace hb5 := hide hb5) | (go_at_call 59; (with_reducible refine q4.out.mono ?_); rintro e w6 ⟨rfl, hb6⟩; have hb7 := hb5.out.trans (hb6.mono hb5.out.size); have q5 := hide (q3.out w6); clear q4; replace hb7 := hide hb7; clear hb6) | (go_at_call 70; (with_reducible refine q5.out.mono ?_); rintro e w8 ⟨rfl, rfl⟩))
        go_ret
        exact ⟨ret_i (by rw [hob.out]), hb0.out.trans (hb7.out.mono hzs)⟩

end Go.Proofs.YthlaoedpjloloaaGreatDoor
