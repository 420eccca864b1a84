/-
  The test of monitors, by the reference and by the program, over monitors as arguments. Conditions: sizes.
-/
import Derived.Test.YtiaclddgllkgpaaGreatDoorMonS
import Derived.Test.YtiaclddgllkgpaaGreatDoorMonI2
import Derived.Test.YtiaclddgllkgpaaGreatDoorKindM
namespace Go.Proofs.YtiaclddgllkgpaaGreatDoor
open Go.ChangeShapes Go.WideShapes Go.ChangeAt Go.RowKit Go.Sort
set_option linter.unusedVariables false

theorem ArgI.long {w : World} {lo hi : Nat} {v : Value} {d : List Int} (h : ArgI w lo hi v d) : ∃ A n c, v = .slice A n c ∧ SlI w lo hi A n d := by
  obtain ⟨A, n, c, h1, h2, h3⟩ := h
  exact ⟨A, n, c, h1, h3⟩
theorem SlI.top {w : World} {lo hi : Nat} {A : Option Addr} {n : Nat} {l : List Int} (h : SlI w lo hi A n l) (hh : hi ≤ w.heap.size) : SlI w 0 w.heap.size A n l := h.more (Nat.zero_le _) hh

set_option maxHeartbeats 800000 in
theorem specValidMonitor_u {v : Value} {d : DM} {w : World} {lo hi : Nat} (he : Env w) (h : FreshM w lo hi v d) (hh : hi ≤ w.heap.size) :
    Calls Tryz.prog 15 #[v] w fun e w' => e = .returned (.bool (monV d)) ∧ Below w.heap.size w w' := by
  obtain ⟨⟨⟨s0, s1, v2, v3⟩, v4, rfl, hL, a0⟩, ht⟩ := h
  obtain ⟨A4, n4, k4, rfl, t4⟩ := a0.long
  obtain ⟨dl, vs⟩ := d
  dsimp only at *
  have hl := t4.len
  simp only [totM] at ht
  have hb0 : Below w.heap.size w (w.alloc (.cells #[.int .i64 s0, .int .i64 s1, v2, v3, .slice A4 n4 k4] 35)) := (Below.refl _ _).alloc (Nat.le_refl _) _
  have k0 := heap_alloc_new w (.cells #[.int .i64 s0, .int .i64 s1, v2, v3, .slice A4 n4 k4] 35)
  have hz : w.heap.size < (w.alloc (.cells #[.int .i64 s0, .int .i64 s1, v2, v3, .slice A4 n4 k4] 35)).heap.size := by rw [World.size_alloc]; omega
  have c0 := (cell_of_row _ _ 0 _ _ (0, 0) k0).trans rfl
  have hat : LtsAt (w.alloc (.cells #[.int .i64 s0, .int .i64 s1, v2, v3, .slice A4 n4 k4] 35)) w.heap.size (s0, s1, v2, v3) dl :=
    ⟨(hL.below hb0 (.inr (Nat.le_refl _))).more (Nat.zero_le _) (by omega), by omega, hz, (cell_of_row _ _ 0 _ _ (0, 0) k0).trans rfl, (cell_of_row _ _ 1 _ _ (0, 0) k0).trans rfl, (cell_of_row _ _ 2 _ _ (0, 0) k0).trans rfl, (cell_of_row _ _ 3 _ _ (0, 0) k0).trans rfl⟩
  have q := hide (l30Is_calls w.heap.size (s0, s1, v2, v3) A4 n4 k4 dl vs _ hat ((cell_of_row _ _ 4 _ _ (0, 0) k0).trans rfl) (by omega) ((t4.below hb0 (.inr (Nat.le_refl _))).more (Nat.zero_le _) (by omega)))
  replace hb0 := hide hb0
  clear k0 hz hat c0 hL t4 a0 ht hl
  go_enter Tryz.func15, Tryz.ntmps15
  go_wp2_with fail
  refine q.out.mono ?_
  rintro e w1 ⟨rfl, hb⟩
  go_wp2_with fail
  go_ret
  exact ⟨rfl, hb0.out.trans (hb.mono hb0.out.size)⟩

theorem implValidMonitor_u {v : Value} {d : DM} {w : World} {lo hi : Nat} (he : Env w) (h : FreshM w lo hi v d) (hh : hi ≤ w.heap.size) :
    Calls Tryz.prog 17 #[v] w fun e w' => e = .returned (.bool (monV d)) ∧ Below w.heap.size w w' := by
  obtain ⟨⟨x, v4, rfl, hL, a0⟩, ht⟩ := h
  obtain ⟨A4, n4, k4, rfl, t4⟩ := a0.long
  obtain ⟨dl, vs⟩ := d
  dsimp only at *
  have hl := t4.len
  simp only [totM] at ht
  exact mon_calls x A4 n4 k4 dl vs w lo hi hL t4 (by omega) (by omega) he

end Go.Proofs.YtiaclddgllkgpaaGreatDoor
