/-
  IsControllable, by the program. Conditions: sizes.
-/
import Derived.Test.YtiaclddgllkgpaaGreatDoorCtlU
namespace Go.Proofs.YtiaclddgllkgpaaGreatDoor
open Go.ChangeShapes Go.WideShapes Go.ChangeAt Go.RowKit Go.Sort
set_option linter.unusedVariables false
set_option linter.unusedSimpArgs false

set_option maxRecDepth 100000 in
set_option maxHeartbeats 1600000 in
theorem implIsControllable_u {v u : Value} {d : DP} {s : DL} {w : World} {lo hi lo' hi' : Nat} (he : Env w) (h : FreshP w lo hi v d) (hh : hi ≤ w.heap.size) (g : FreshL w lo' hi' u s) (gh : hi' ≤ w.heap.size) :
    Calls Tryz.prog 51 #[v, u] w fun e w' => e = .returned (.bool (ctlV d s)) ∧ Below w.heap.size w w' := by
  obtain ⟨⟨p0, p1, v2, v3⟩, A4, n4, k4, A5, n5, k5, ev, hp⟩ := h.open_
  obtain ⟨⟨r0, r1, u2, u3⟩, eu, gL⟩ := g.1
  dsimp only at ev eu
  have hcode := hide (ctlF_code d s)
  have hb0 : Below w.heap.size w ((w.alloc (.cells #[.int .i64 p0, .int .i64 p1, v2, v3, .slice A4 n4 k4, .slice A5 n5 k5] 44)).alloc (.cells #[.int .i64 r0, .int .i64 r1, u2, u3] 33)) := ((Below.refl _ _).alloc (Nat.le_refl _) _).alloc (by rw [World.size_alloc]; omega) _
  have k0 : ((w.alloc (.cells #[.int .i64 p0, .int .i64 p1, v2, v3, .slice A4 n4 k4, .slice A5 n5 k5] 44)).alloc (.cells #[.int .i64 r0, .int .i64 r1, u2, u3] 33)).heap[w.heap.size]? = some (.cells #[.int .i64 p0, .int .i64 p1, v2, v3, .slice A4 n4 k4, .slice A5 n5 k5] 44 (0, 0)) := (Below.heap_alloc _ _ _ (by rw [World.size_alloc]; omega)).trans (heap_alloc_new w _)
  have k1 : ((w.alloc (.cells #[.int .i64 p0, .int .i64 p1, v2, v3, .slice A4 n4 k4, .slice A5 n5 k5] 44)).alloc (.cells #[.int .i64 r0, .int .i64 r1, u2, u3] 33)).heap[w.heap.size + 1]? = some (.cells #[.int .i64 r0, .int .i64 r1, u2, u3] 33 (0, 0)) := by have h := heap_alloc_new (w.alloc (.cells #[.int .i64 p0, .int .i64 p1, v2, v3, .slice A4 n4 k4, .slice A5 n5 k5] 44)) (.cells #[.int .i64 r0, .int .i64 r1, u2, u3] 33); rw [World.size_alloc] at h; exact h
  have qf := implControlFault_u (he.below hb0 (Nat.le_refl _)) (h.below hb0 (.inr (Nat.le_refl _))) (Nat.le_trans hh hb0.size) (g.below hb0 (.inr (Nat.le_refl _))) (Nat.le_trans gh hb0.size)
  obtain ⟨A2, n2, k2, e2⟩ := hp.sys.2.2.1.shape
  obtain ⟨A3, n3, k3, e3⟩ := hp.sys.2.2.2.shape
  obtain ⟨B2, m2, j2, f2⟩ := gL.2.2.1.shape
  obtain ⟨B3, m3, j3, f3⟩ := gL.2.2.2.shape
  dsimp only at e2 e3 f2 f3
  subst e2 e3 f2 f3
  subst ev eu
  have a0 := (cell_of_row _ _ 0 _ _ (0, 0) k0).trans (show _ = some (Value.int .i64 p0) from rfl)
  have a1 := (cell_of_row _ _ 1 _ _ (0, 0) k0).trans (show _ = some (Value.int .i64 p1) from rfl)
  have a2 := (cell_of_row _ _ 2 _ _ (0, 0) k0).trans (show _ = some (Value.slice A2 n2 k2) from rfl)
  have a3 := (cell_of_row _ _ 3 _ _ (0, 0) k0).trans (show _ = some (Value.slice A3 n3 k3) from rfl)
  have a4 := (cell_of_row _ _ 4 _ _ (0, 0) k0).trans (show _ = some (Value.slice A4 n4 k4) from rfl)
  have a5 := (cell_of_row _ _ 5 _ _ (0, 0) k0).trans (show _ = some (Value.slice A5 n5 k5) from rfl)
  have b0 := (cell_of_row _ _ 0 _ _ (0, 0) k1).trans (show _ = some (Value.int .i64 r0) from rfl)
  have b1 := (cell_of_row _ _ 1 _ _ (0, 0) k1).trans (show _ = some (Value.int .i64 r1) from rfl)
  have b2 := (cell_of_row _ _ 2 _ _ (0, 0) k1).trans (show _ = some (Value.slice B2 m2 j2) from rfl)
  have b3 := (cell_of_row _ _ 3 _ _ (0, 0) k1).trans (show _ = some (Value.slice B3 m3 j3) from rfl)
  replace qf := hide qf
  replace hb0 := hide hb0
  clear k0 k1 h g hp gL he
  go_enter Tryz.func51, Tryz.ntmps51
  go_upto_region 1 with fail
  generalize ((w.alloc (.cells #[.int .i64 p0, .int .i64 p1, .slice A2 n2 k2, .slice A3 n3 k3, .slice A4 n4 k4, .slice A5 n5 k5] 44)).alloc (.cells #[.int .i64 r0, .int .i64 r1, .slice B2 m2 j2, .slice B3 m3 j3] 33)) = W0 at *
  generalize (ctlF d s) = cf at *
  obtain ⟨c1, c2, z⟩ := cf
  dsimp only at *
  go_wp2_with fail
  refine qf.out.mono ?_
  rintro e w1 ⟨u0, rfl, -, hb⟩
  have hbw := hide (hb0.out.trans (hb.mono hb0.out.size))
  clear hb
  go_wp2_with fail
  go_ret
  exact ⟨by rw [← hcode.out, ← beq_dec]; rfl, hbw.out⟩

end Go.Proofs.YtiaclddgllkgpaaGreatDoor
