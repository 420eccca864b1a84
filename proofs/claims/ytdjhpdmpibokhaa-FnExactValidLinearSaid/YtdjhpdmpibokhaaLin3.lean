/-
  Linear processes as arguments of a law: copies. Conditions: at most 1048576 elements.
-/
import Derived.Test.YtdjhpdmpibokhaaLin2
namespace Go.Proofs.Ytdjhpdmpibokhaa
open Go.ChangeShapes Go.WideShapes Go.ChangeAt Go.RowKit
set_option linter.unusedVariables false

theorem toInt64S_a {v : Value} {d : List Int} {w : World} {lo hi : Nat} (h : ArgI w lo hi v d) (ht : d.length ≤ 1048576) :
    Calls Try.prog 32 #[v] w fun e w' => ∃ v', e = .returned v' ∧ ArgI w' w.heap.size w'.heap.size v' d ∧ Below w.heap.size w w' := by
  obtain ⟨A, n, c, rfl, h2, h3⟩ := h
  have hl := h3.len
  refine (toInt64S_calls A n c d w lo hi h3 (by omega)).mono ?_
  rintro e w' ⟨A', rfl, hb, hs⟩
  exact ⟨_, rfl, ⟨A', n, n, rfl, h2, hs⟩, hb⟩
theorem toTermS_a {v : Value} {d : List (Int × Int)} {w : World} {lo hi : Nat} (h : ArgT w lo hi v d) (ht : d.length ≤ 1048576) :
    Calls Try.prog 14 #[v] w fun e w' => ∃ v', e = .returned v' ∧ ArgT w' w.heap.size w'.heap.size v' d ∧ Below w.heap.size w w' := by
  obtain ⟨A, n, c, rfl, h2, h3⟩ := h
  have hl := h3.len
  refine (toTermS_calls A n c d w lo hi h3 (by omega)).mono ?_
  rintro e w' ⟨A', rfl, hb, hs⟩
  exact ⟨_, rfl, ⟨A', n, n, rfl, h2, hs⟩, hb⟩
theorem toTermSS_a {v : Value} {d : DTT} {w : World} {lo hi : Nat} (h : ArgTT w lo hi v d) (ht : totTT d ≤ 1048576) :
    Calls Try.prog 27 #[v] w fun e w' => ∃ v', e = .returned v' ∧ ArgTT w' w.heap.size w'.heap.size v' d ∧ Below w.heap.size w w' := by
  refine (toTermSS_u h ht).mono ?_
  rintro e w' ⟨v', rfl, hF, hb⟩
  exact ⟨_, rfl, hF.arg, hb⟩

set_option maxHeartbeats 1600000 in
set_option maxRecDepth 100000 in
theorem toSummand_a {x : CSu} {d : DSu} {w : World} {lo hi : Nat} (h : ReadSu w lo hi x d) (ht : totSu d ≤ 1048576) :
    Calls Try.prog 112 #[.agg #[x.1, x.2.1, .string x.2.2.1, x.2.2.2.1, x.2.2.2.2]] w fun e w' => ∃ y : CSu, e = .returned (.agg #[y.1, y.2.1, .string y.2.2.1, y.2.2.2.1, y.2.2.2.2]) ∧ ReadSu w' w.heap.size w'.heap.size y d ∧ Below w.heap.size w w' := by
  obtain ⟨v0, v1, v2, v3, v4⟩ := x
  obtain ⟨d0, d1, d2, d3, d4⟩ := d
  obtain ⟨t0, t1, ⟨e2, hn2⟩, t3, t4⟩ := h
  dsimp only at *
  subst e2
  simp only [totSu] at ht
  have q0 := hide (fun W (hW : Below w.heap.size w W) => toInt64S_a (t0.below hW (.inr (Nat.le_refl _))) (by omega))
  have q1 := hide (fun W (hW : Below w.heap.size w W) => toTermS_a (t1.below hW (.inr (Nat.le_refl _))) (by omega))
  have q3 := hide (fun W (hW : Below w.heap.size w W) => toTermSS_a (t3.below hW (.inr (Nat.le_refl _))) (by omega))
  have q4 := hide (fun W (hW : Below w.heap.size w W) => toTermSS_a (t4.below hW (.inr (Nat.le_refl _))) (by omega))
  clear t0 t1 t3 t4
  have k0 : (((w.alloc (.cells #[v0, v1, .string v2, v3, v4] 122)).alloc (.cells #[.slice none 0 0, .slice none 0 0, .string { data := #[] }, .slice none 0 0, .slice none 0 0] 103)).alloc (.cells #[.slice none 0 0, .slice none 0 0, .string { data := #[] }, .slice none 0 0, .slice none 0 0] 103)).heap[w.heap.size]? = some (.cells #[v0, v1, .string v2, v3, v4] 122 (0, 0)) := (Below.heap_alloc _ _ _ (by simp only [World.size_alloc]; omega)).trans ((Below.heap_alloc _ _ _ (by simp only [World.size_alloc]; omega)).trans (heap_alloc_new w _))
  have k1 : (((w.alloc (.cells #[v0, v1, .string v2, v3, v4] 122)).alloc (.cells #[.slice none 0 0, .slice none 0 0, .string { data := #[] }, .slice none 0 0, .slice none 0 0] 103)).alloc (.cells #[.slice none 0 0, .slice none 0 0, .string { data := #[] }, .slice none 0 0, .slice none 0 0] 103)).heap[w.heap.size + 1]? = some (.cells #[.slice none 0 0, .slice none 0 0, .string { data := #[] }, .slice none 0 0, .slice none 0 0] 103 (0, 0)) := by have h := heap_alloc_new (w.alloc (.cells #[v0, v1, .string v2, v3, v4] 122)) (.cells #[.slice none 0 0, .slice none 0 0, .string { data := #[] }, .slice none 0 0, .slice none 0 0] 103); rw [World.size_alloc] at h; exact (Below.heap_alloc _ _ _ (by simp only [World.size_alloc]; omega)).trans h
  have k2 : (((w.alloc (.cells #[v0, v1, .string v2, v3, v4] 122)).alloc (.cells #[.slice none 0 0, .slice none 0 0, .string { data := #[] }, .slice none 0 0, .slice none 0 0] 103)).alloc (.cells #[.slice none 0 0, .slice none 0 0, .string { data := #[] }, .slice none 0 0, .slice none 0 0] 103)).heap[w.heap.size + 1 + 1]? = some (.cells #[.slice none 0 0, .slice none 0 0, .string { data := #[] }, .slice none 0 0, .slice none 0 0] 103 (0, 0)) := by have h := heap_alloc_new ((w.alloc (.cells #[v0, v1, .string v2, v3, v4] 122)).alloc (.cells #[.slice none 0 0, .slice none 0 0, .string { data := #[] }, .slice none 0 0, .slice none 0 0] 103)) (.cells #[.slice none 0 0, .slice none 0 0, .string { data := #[] }, .slice none 0 0, .slice none 0 0] 103); rw [World.size_alloc, World.size_alloc] at h; exact h
  have hb : Below w.heap.size w (((w.alloc (.cells #[v0, v1, .string v2, v3, v4] 122)).alloc (.cells #[.slice none 0 0, .slice none 0 0, .string { data := #[] }, .slice none 0 0, .slice none 0 0] 103)).alloc (.cells #[.slice none 0 0, .slice none 0 0, .string { data := #[] }, .slice none 0 0, .slice none 0 0] 103)) := (((Below.refl _ _).alloc (Nat.le_refl _) _).alloc (by simp only [World.size_alloc]; omega) _).alloc (by simp only [World.size_alloc]; omega) _
  have hz : w.heap.size + 1 + 1 < (((w.alloc (.cells #[v0, v1, .string v2, v3, v4] 122)).alloc (.cells #[.slice none 0 0, .slice none 0 0, .string { data := #[] }, .slice none 0 0, .slice none 0 0] 103)).alloc (.cells #[.slice none 0 0, .slice none 0 0, .string { data := #[] }, .slice none 0 0, .slice none 0 0] 103)).heap.size := by simp only [World.size_alloc]; omega
  go_enter Try.func112, Try.ntmps112
  go_wp2_with fail
  generalize (((w.alloc (.cells #[v0, v1, .string v2, v3, v4] 122)).alloc (.cells #[.slice none 0 0, .slice none 0 0, .string { data := #[] }, .slice none 0 0, .slice none 0 0] 103)).alloc (.cells #[.slice none 0 0, .slice none 0 0, .string { data := #[] }, .slice none 0 0, .slice none 0 0] 103)) = W at *
  refine (q0.out _ hb).mono ?_
  rintro e w1 ⟨u0, rfl, g0, hb1⟩
  replace k0 := (hb1.block _ (by omega)).trans k0
  replace k1 := (hb1.block _ (by omega)).trans k1
  replace k2 := (hb1.block _ (by omega)).trans k2
  have hz1 := hb1.size
  try simp only [World.size_setCell] at hz1
  replace g0 := g0.more (lo' := w.heap.size + 1 + 1 + 1) (hi' := w1.heap.size) hz (Nat.le_refl _)
  obtain ⟨A0, n0, c0, rfl⟩ := g0.shape
  replace hb := hb.trans (hb1.mono hb.size)
  replace hz := Nat.lt_of_lt_of_le hz hb1.size
  clear hz1 hb1
  have a0 : w1.cell? ⟨w.heap.size, 0, none⟩ = some (v0) := (cell_of_row _ _ 0 _ _ (0, 0) k0).trans rfl
  have b0 : w1.cell? ⟨w.heap.size + 1 + 1, 0, none⟩ = some (.slice none 0 0) := (cell_of_row _ _ 0 _ _ (0, 0) k2).trans rfl
  have f0 := frozen_of_row _ _ 0 _ _ k2
  have r0 : w1.cell? ⟨w.heap.size + 1, 0, none⟩ = some (.slice none 0 0) := (cell_of_row _ _ 0 _ _ (0, 0) k1).trans rfl
  have s0 := frozen_of_row _ _ 0 _ _ k1
  have a1 : w1.cell? ⟨w.heap.size, 1, none⟩ = some (v1) := (cell_of_row _ _ 1 _ _ (0, 0) k0).trans rfl
  have b1 : w1.cell? ⟨w.heap.size + 1 + 1, 1, none⟩ = some (.slice none 0 0) := (cell_of_row _ _ 1 _ _ (0, 0) k2).trans rfl
  have f1 := frozen_of_row _ _ 1 _ _ k2
  have r1 : w1.cell? ⟨w.heap.size + 1, 1, none⟩ = some (.slice none 0 0) := (cell_of_row _ _ 1 _ _ (0, 0) k1).trans rfl
  have s1 := frozen_of_row _ _ 1 _ _ k1
  have a2 : w1.cell? ⟨w.heap.size, 2, none⟩ = some (.string v2) := (cell_of_row _ _ 2 _ _ (0, 0) k0).trans rfl
  have b2 : w1.cell? ⟨w.heap.size + 1 + 1, 2, none⟩ = some (.string { data := #[] }) := (cell_of_row _ _ 2 _ _ (0, 0) k2).trans rfl
  have f2 := frozen_of_row _ _ 2 _ _ k2
  have r2 : w1.cell? ⟨w.heap.size + 1, 2, none⟩ = some (.string { data := #[] }) := (cell_of_row _ _ 2 _ _ (0, 0) k1).trans rfl
  have s2 := frozen_of_row _ _ 2 _ _ k1
  have a3 : w1.cell? ⟨w.heap.size, 3, none⟩ = some (v3) := (cell_of_row _ _ 3 _ _ (0, 0) k0).trans rfl
  have b3 : w1.cell? ⟨w.heap.size + 1 + 1, 3, none⟩ = some (.slice none 0 0) := (cell_of_row _ _ 3 _ _ (0, 0) k2).trans rfl
  have f3 := frozen_of_row _ _ 3 _ _ k2
  have r3 : w1.cell? ⟨w.heap.size + 1, 3, none⟩ = some (.slice none 0 0) := (cell_of_row _ _ 3 _ _ (0, 0) k1).trans rfl
  have s3 := frozen_of_row _ _ 3 _ _ k1
  have a4 : w1.cell? ⟨w.heap.size, 4, none⟩ = some (v4) := (cell_of_row _ _ 4 _ _ (0, 0) k0).trans rfl
  have b4 : w1.cell? ⟨w.heap.size + 1 + 1, 4, none⟩ = some (.slice none 0 0) := (cell_of_row _ _ 4 _ _ (0, 0) k2).trans rfl
  have f4 := frozen_of_row _ _ 4 _ _ k2
  have r4 : w1.cell? ⟨w.heap.size + 1, 4, none⟩ = some (.slice none 0 0) := (cell_of_row _ _ 4 _ _ (0, 0) k1).trans rfl
  have s4 := frozen_of_row _ _ 4 _ _ k1
  go_wp2_with fail
  replace k0 : (w1.setCell ⟨w.heap.size + 1 + 1, 0, none⟩ (.slice A0 n0 c0)).heap[w.heap.size]? = _ := (Below.heap_setCell _ _ _ _ (by show w.heap.size ≠ w.heap.size + 1 + 1; omega)).trans k0
  replace k1 : (w1.setCell ⟨w.heap.size + 1 + 1, 0, none⟩ (.slice A0 n0 c0)).heap[w.heap.size + 1]? = _ := (Below.heap_setCell _ _ _ _ (by show w.heap.size + 1 ≠ w.heap.size + 1 + 1; omega)).trans k1
  replace k2 : (w1.setCell ⟨w.heap.size + 1 + 1, 0, none⟩ (.slice A0 n0 c0)).heap[w.heap.size + 1 + 1]? = some (.cells #[.slice A0 n0 c0, .slice none 0 0, .string { data := #[] }, .slice none 0 0, .slice none 0 0] 103 (0, 0)) := heap_setCell_same _ _ _ _ _ _ k2
  replace hb : Below w.heap.size w (w1.setCell ⟨w.heap.size + 1 + 1, 0, none⟩ (.slice A0 n0 c0)) := hb.setCell (by show w.heap.size ≤ w.heap.size + 1 + 1; omega) _
  replace hz : w.heap.size + 1 + 1 < (w1.setCell ⟨w.heap.size + 1 + 1, 0, none⟩ (.slice A0 n0 c0)).heap.size := by rw [World.size_setCell]; exact hz
  replace g0 := g0.only ((Only.refl (w.heap.size + 1 + 1) (w.heap.size + 1 + 1 + 1) w1).setCell (p := ⟨w.heap.size + 1 + 1, 0, none⟩) (Nat.le_refl _) (Nat.lt_succ_self _) (.slice A0 n0 c0)) (.inr (by omega))
  refine (q1.out _ hb).mono ?_
  rintro e w2 ⟨u1, rfl, g1, hb1⟩
  clear a0 b0 f0 r0 s0 a1 b1 f1 r1 s1 a2 b2 f2 r2 s2 a3 b3 f3 r3 s3 a4 b4 f4 r4 s4
  replace k0 := (hb1.block _ (by omega)).trans k0
  replace k1 := (hb1.block _ (by omega)).trans k1
  replace k2 := (hb1.block _ (by omega)).trans k2
  have hz1 := hb1.size
  try simp only [World.size_setCell] at hz1
  replace g0 := (g0.below hb1 (.inr (Nat.le_refl _))).more (lo' := w.heap.size + 1 + 1 + 1) (hi' := w2.heap.size) (Nat.le_refl _) hz1
  replace g1 := g1.more (lo' := w.heap.size + 1 + 1 + 1) (hi' := w2.heap.size) hz (Nat.le_refl _)
  obtain ⟨A1, n1, c1, rfl⟩ := g1.shape
  replace hb := hb.trans (hb1.mono hb.size)
  replace hz := Nat.lt_of_lt_of_le hz hb1.size
  clear hz1 hb1
  have a0 : w2.cell? ⟨w.heap.size, 0, none⟩ = some (v0) := (cell_of_row _ _ 0 _ _ (0, 0) k0).trans rfl
  have b0 : w2.cell? ⟨w.heap.size + 1 + 1, 0, none⟩ = some (.slice A0 n0 c0) := (cell_of_row _ _ 0 _ _ (0, 0) k2).trans rfl
  have f0 := frozen_of_row _ _ 0 _ _ k2
  have r0 : w2.cell? ⟨w.heap.size + 1, 0, none⟩ = some (.slice none 0 0) := (cell_of_row _ _ 0 _ _ (0, 0) k1).trans rfl
  have s0 := frozen_of_row _ _ 0 _ _ k1
  have a1 : w2.cell? ⟨w.heap.size, 1, none⟩ = some (v1) := (cell_of_row _ _ 1 _ _ (0, 0) k0).trans rfl
  have b1 : w2.cell? ⟨w.heap.size + 1 + 1, 1, none⟩ = some (.slice none 0 0) := (cell_of_row _ _ 1 _ _ (0, 0) k2).trans rfl
  have f1 := frozen_of_row _ _ 1 _ _ k2
  have r1 : w2.cell? ⟨w.heap.size + 1, 1, none⟩ = some (.slice none 0 0) := (cell_of_row _ _ 1 _ _ (0, 0) k1).trans rfl
  have s1 := frozen_of_row _ _ 1 _ _ k1
  have a2 : w2.cell? ⟨w.heap.size, 2, none⟩ = some (.string v2) := (cell_of_row _ _ 2 _ _ (0, 0) k0).trans rfl
  have b2 : w2.cell? ⟨w.heap.size + 1 + 1, 2, none⟩ = some (.string { data := #[] }) := (cell_of_row _ _ 2 _ _ (0, 0) k2).trans rfl
  have f2 := frozen_of_row _ _ 2 _ _ k2
  have r2 : w2.cell? ⟨w.heap.size + 1, 2, none⟩ = some (.string { data := #[] }) := (cell_of_row _ _ 2 _ _ (0, 0) k1).trans rfl
  have s2 := frozen_of_row _ _ 2 _ _ k1
  have a3 : w2.cell? ⟨w.heap.size, 3, none⟩ = some (v3) := (cell_of_row _ _ 3 _ _ (0, 0) k0).trans rfl
  have b3 : w2.cell? ⟨w.heap.size + 1 + 1, 3, none⟩ = some (.slice none 0 0) := (cell_of_row _ _ 3 _ _ (0, 0) k2).trans rfl
  have f3 := frozen_of_row _ _ 3 _ _ k2
  have r3 : w2.cell? ⟨w.heap.size + 1, 3, none⟩ = some (.slice none 0 0) := (cell_of_row _ _ 3 _ _ (0, 0) k1).trans rfl
  have s3 := frozen_of_row _ _ 3 _ _ k1
  have a4 : w2.cell? ⟨w.heap.size, 4, none⟩ = some (v4) := (cell_of_row _ _ 4 _ _ (0, 0) k0).trans rfl
  have b4 : w2.cell? ⟨w.heap.size + 1 + 1, 4, none⟩ = some (.slice none 0 0) := (cell_of_row _ _ 4 _ _ (0, 0) k2).trans rfl
  have f4 := frozen_of_row _ _ 4 _ _ k2
  have r4 : w2.cell? ⟨w.heap.size + 1, 4, none⟩ = some (.slice none 0 0) := (cell_of_row _ _ 4 _ _ (0, 0) k1).trans rfl
  have s4 := frozen_of_row _ _ 4 _ _ k1
  go_wp2_with fail
  replace k0 : (w2.setCell ⟨w.heap.size + 1 + 1, 1, none⟩ (.slice A1 n1 c1)).heap[w.heap.size]? = _ := (Below.heap_setCell _ _ _ _ (by show w.heap.size ≠ w.heap.size + 1 + 1; omega)).trans k0
  replace k1 : (w2.setCell ⟨w.heap.size + 1 + 1, 1, none⟩ (.slice A1 n1 c1)).heap[w.heap.size + 1]? = _ := (Below.heap_setCell _ _ _ _ (by show w.heap.size + 1 ≠ w.heap.size + 1 + 1; omega)).trans k1
  replace k2 : (w2.setCell ⟨w.heap.size + 1 + 1, 1, none⟩ (.slice A1 n1 c1)).heap[w.heap.size + 1 + 1]? = some (.cells #[.slice A0 n0 c0, .slice A1 n1 c1, .string { data := #[] }, .slice none 0 0, .slice none 0 0] 103 (0, 0)) := heap_setCell_same _ _ _ _ _ _ k2
  replace hb : Below w.heap.size w (w2.setCell ⟨w.heap.size + 1 + 1, 1, none⟩ (.slice A1 n1 c1)) := hb.setCell (by show w.heap.size ≤ w.heap.size + 1 + 1; omega) _
  replace hz : w.heap.size + 1 + 1 < (w2.setCell ⟨w.heap.size + 1 + 1, 1, none⟩ (.slice A1 n1 c1)).heap.size := by rw [World.size_setCell]; exact hz
  replace g0 := g0.only ((Only.refl (w.heap.size + 1 + 1) (w.heap.size + 1 + 1 + 1) w2).setCell (p := ⟨w.heap.size + 1 + 1, 1, none⟩) (Nat.le_refl _) (Nat.lt_succ_self _) (.slice A1 n1 c1)) (.inr (by omega))
  replace g1 := g1.only ((Only.refl (w.heap.size + 1 + 1) (w.heap.size + 1 + 1 + 1) w2).setCell (p := ⟨w.heap.size + 1 + 1, 1, none⟩) (Nat.le_refl _) (Nat.lt_succ_self _) (.slice A1 n1 c1)) (.inr (by omega))
  replace k0 : ((w2.setCell ⟨w.heap.size + 1 + 1, 1, none⟩ (.slice A1 n1 c1)).setCell ⟨w.heap.size + 1 + 1, 2, none⟩ (.string v2)).heap[w.heap.size]? = _ := (Below.heap_setCell _ _ _ _ (by show w.heap.size ≠ w.heap.size + 1 + 1; omega)).trans k0
  replace k1 : ((w2.setCell ⟨w.heap.size + 1 + 1, 1, none⟩ (.slice A1 n1 c1)).setCell ⟨w.heap.size + 1 + 1, 2, none⟩ (.string v2)).heap[w.heap.size + 1]? = _ := (Below.heap_setCell _ _ _ _ (by show w.heap.size + 1 ≠ w.heap.size + 1 + 1; omega)).trans k1
  replace k2 : ((w2.setCell ⟨w.heap.size + 1 + 1, 1, none⟩ (.slice A1 n1 c1)).setCell ⟨w.heap.size + 1 + 1, 2, none⟩ (.string v2)).heap[w.heap.size + 1 + 1]? = some (.cells #[.slice A0 n0 c0, .slice A1 n1 c1, .string v2, .slice none 0 0, .slice none 0 0] 103 (0, 0)) := heap_setCell_same _ _ _ _ _ _ k2
  replace hb : Below w.heap.size w ((w2.setCell ⟨w.heap.size + 1 + 1, 1, none⟩ (.slice A1 n1 c1)).setCell ⟨w.heap.size + 1 + 1, 2, none⟩ (.string v2)) := hb.setCell (by show w.heap.size ≤ w.heap.size + 1 + 1; omega) _
  replace hz : w.heap.size + 1 + 1 < ((w2.setCell ⟨w.heap.size + 1 + 1, 1, none⟩ (.slice A1 n1 c1)).setCell ⟨w.heap.size + 1 + 1, 2, none⟩ (.string v2)).heap.size := by rw [World.size_setCell]; exact hz
  replace g0 := g0.only ((Only.refl (w.heap.size + 1 + 1) (w.heap.size + 1 + 1 + 1) (w2.setCell ⟨w.heap.size + 1 + 1, 1, none⟩ (.slice A1 n1 c1))).setCell (p := ⟨w.heap.size + 1 + 1, 2, none⟩) (Nat.le_refl _) (Nat.lt_succ_self _) (.string v2)) (.inr (by omega))
  replace g1 := g1.only ((Only.refl (w.heap.size + 1 + 1) (w.heap.size + 1 + 1 + 1) (w2.setCell ⟨w.heap.size + 1 + 1, 1, none⟩ (.slice A1 n1 c1))).setCell (p := ⟨w.heap.size + 1 + 1, 2, none⟩) (Nat.le_refl _) (Nat.lt_succ_self _) (.string v2)) (.inr (by omega))
  refine (q3.out _ hb).mono ?_
  rintro e w3 ⟨u3, rfl, g3, hb1⟩
  clear a0 b0 f0 r0 s0 a1 b1 f1 r1 s1 a2 b2 f2 r2 s2 a3 b3 f3 r3 s3 a4 b4 f4 r4 s4
  replace k0 := (hb1.block _ (by omega)).trans k0
  replace k1 := (hb1.block _ (by omega)).trans k1
  replace k2 := (hb1.block _ (by omega)).trans k2
  have hz1 := hb1.size
  try simp only [World.size_setCell] at hz1
  replace g0 := (g0.below hb1 (.inr (Nat.le_refl _))).more (lo' := w.heap.size + 1 + 1 + 1) (hi' := w3.heap.size) (Nat.le_refl _) hz1
  replace g1 := (g1.below hb1 (.inr (Nat.le_refl _))).more (lo' := w.heap.size + 1 + 1 + 1) (hi' := w3.heap.size) (Nat.le_refl _) hz1
  replace g3 := g3.more (lo' := w.heap.size + 1 + 1 + 1) (hi' := w3.heap.size) hz (Nat.le_refl _)
  obtain ⟨A3, n3, c3, rfl⟩ := g3.shape
  replace hb := hb.trans (hb1.mono hb.size)
  replace hz := Nat.lt_of_lt_of_le hz hb1.size
  clear hz1 hb1
  have a0 : w3.cell? ⟨w.heap.size, 0, none⟩ = some (v0) := (cell_of_row _ _ 0 _ _ (0, 0) k0).trans rfl
  have b0 : w3.cell? ⟨w.heap.size + 1 + 1, 0, none⟩ = some (.slice A0 n0 c0) := (cell_of_row _ _ 0 _ _ (0, 0) k2).trans rfl
  have f0 := frozen_of_row _ _ 0 _ _ k2
  have r0 : w3.cell? ⟨w.heap.size + 1, 0, none⟩ = some (.slice none 0 0) := (cell_of_row _ _ 0 _ _ (0, 0) k1).trans rfl
  have s0 := frozen_of_row _ _ 0 _ _ k1
  have a1 : w3.cell? ⟨w.heap.size, 1, none⟩ = some (v1) := (cell_of_row _ _ 1 _ _ (0, 0) k0).trans rfl
  have b1 : w3.cell? ⟨w.heap.size + 1 + 1, 1, none⟩ = some (.slice A1 n1 c1) := (cell_of_row _ _ 1 _ _ (0, 0) k2).trans rfl
  have f1 := frozen_of_row _ _ 1 _ _ k2
  have r1 : w3.cell? ⟨w.heap.size + 1, 1, none⟩ = some (.slice none 0 0) := (cell_of_row _ _ 1 _ _ (0, 0) k1).trans rfl
  have s1 := frozen_of_row _ _ 1 _ _ k1
  have a2 : w3.cell? ⟨w.heap.size, 2, none⟩ = some (.string v2) := (cell_of_row _ _ 2 _ _ (0, 0) k0).trans rfl
  have b2 : w3.cell? ⟨w.heap.size + 1 + 1, 2, none⟩ = some (.string v2) := (cell_of_row _ _ 2 _ _ (0, 0) k2).trans rfl
  have f2 := frozen_of_row _ _ 2 _ _ k2
  have r2 : w3.cell? ⟨w.heap.size + 1, 2, none⟩ = some (.string { data := #[] }) := (cell_of_row _ _ 2 _ _ (0, 0) k1).trans rfl
  have s2 := frozen_of_row _ _ 2 _ _ k1
  have a3 : w3.cell? ⟨w.heap.size, 3, none⟩ = some (v3) := (cell_of_row _ _ 3 _ _ (0, 0) k0).trans rfl
  have b3 : w3.cell? ⟨w.heap.size + 1 + 1, 3, none⟩ = some (.slice none 0 0) := (cell_of_row _ _ 3 _ _ (0, 0) k2).trans rfl
  have f3 := frozen_of_row _ _ 3 _ _ k2
  have r3 : w3.cell? ⟨w.heap.size + 1, 3, none⟩ = some (.slice none 0 0) := (cell_of_row _ _ 3 _ _ (0, 0) k1).trans rfl
  have s3 := frozen_of_row _ _ 3 _ _ k1
  have a4 : w3.cell? ⟨w.heap.size, 4, none⟩ = some (v4) := (cell_of_row _ _ 4 _ _ (0, 0) k0).trans rfl
  have b4 : w3.cell? ⟨w.heap.size + 1 + 1, 4, none⟩ = some (.slice none 0 0) := (cell_of_row _ _ 4 _ _ (0, 0) k2).trans rfl
  have f4 := frozen_of_row _ _ 4 _ _ k2
  have r4 : w3.cell? ⟨w.heap.size + 1, 4, none⟩ = some (.slice none 0 0) := (cell_of_row _ _ 4 _ _ (0, 0) k1).trans rfl
  have s4 := frozen_of_row _ _ 4 _ _ k1
  go_wp2_with fail
  replace k0 : (w3.setCell ⟨w.heap.size + 1 + 1, 3, none⟩ (.slice A3 n3 c3)).heap[w.heap.size]? = _ := (Below.heap_setCell _ _ _ _ (by show w.heap.size ≠ w.heap.size + 1 + 1; omega)).trans k0
  replace k1 : (w3.setCell ⟨w.heap.size + 1 + 1, 3, none⟩ (.slice A3 n3 c3)).heap[w.heap.size + 1]? = _ := (Below.heap_setCell _ _ _ _ (by show w.heap.size + 1 ≠ w.heap.size + 1 + 1; omega)).trans k1
  replace k2 : (w3.setCell ⟨w.heap.size + 1 + 1, 3, none⟩ (.slice A3 n3 c3)).heap[w.heap.size + 1 + 1]? = some (.cells #[.slice A0 n0 c0, .slice A1 n1 c1, .string v2, .slice A3 n3 c3, .slice none 0 0] 103 (0, 0)) := heap_setCell_same _ _ _ _ _ _ k2
  replace hb : Below w.heap.size w (w3.setCell ⟨w.heap.size + 1 + 1, 3, none⟩ (.slice A3 n3 c3)) := hb.setCell (by show w.heap.size ≤ w.heap.size + 1 + 1; omega) _
  replace hz : w.heap.size + 1 + 1 < (w3.setCell ⟨w.heap.size + 1 + 1, 3, none⟩ (.slice A3 n3 c3)).heap.size := by rw [World.size_setCell]; exact hz
  replace g0 := g0.only ((Only.refl (w.heap.size + 1 + 1) (w.heap.size + 1 + 1 + 1) w3).setCell (p := ⟨w.heap.size + 1 + 1, 3, none⟩) (Nat.le_refl _) (Nat.lt_succ_self _) (.slice A3 n3 c3)) (.inr (by omega))
  replace g1 := g1.only ((Only.refl (w.heap.size + 1 + 1) (w.heap.size + 1 + 1 + 1) w3).setCell (p := ⟨w.heap.size + 1 + 1, 3, none⟩) (Nat.le_refl _) (Nat.lt_succ_self _) (.slice A3 n3 c3)) (.inr (by omega))
  replace g3 := g3.only ((Only.refl (w.heap.size + 1 + 1) (w.heap.size + 1 + 1 + 1) w3).setCell (p := ⟨w.heap.size + 1 + 1, 3, none⟩) (Nat.le_refl _) (Nat.lt_succ_self _) (.slice A3 n3 c3)) (.inr (by omega))
  refine (q4.out _ hb).mono ?_
  rintro e w4 ⟨u4, rfl, g4, hb1⟩
  clear a0 b0 f0 r0 s0 a1 b1 f1 r1 s1 a2 b2 f2 r2 s2 a3 b3 f3 r3 s3 a4 b4 f4 r4 s4
  replace k0 := (hb1.block _ (by omega)).trans k0
  replace k1 := (hb1.block _ (by omega)).trans k1
  replace k2 := (hb1.block _ (by omega)).trans k2
  have hz1 := hb1.size
  try simp only [World.size_setCell] at hz1
  replace g0 := (g0.below hb1 (.inr (Nat.le_refl _))).more (lo' := w.heap.size + 1 + 1 + 1) (hi' := w4.heap.size) (Nat.le_refl _) hz1
  replace g1 := (g1.below hb1 (.inr (Nat.le_refl _))).more (lo' := w.heap.size + 1 + 1 + 1) (hi' := w4.heap.size) (Nat.le_refl _) hz1
  replace g3 := (g3.below hb1 (.inr (Nat.le_refl _))).more (lo' := w.heap.size + 1 + 1 + 1) (hi' := w4.heap.size) (Nat.le_refl _) hz1
  replace g4 := g4.more (lo' := w.heap.size + 1 + 1 + 1) (hi' := w4.heap.size) hz (Nat.le_refl _)
  obtain ⟨A4, n4, c4, rfl⟩ := g4.shape
  replace hb := hb.trans (hb1.mono hb.size)
  replace hz := Nat.lt_of_lt_of_le hz hb1.size
  clear hz1 hb1
  have a0 : w4.cell? ⟨w.heap.size, 0, none⟩ = some (v0) := (cell_of_row _ _ 0 _ _ (0, 0) k0).trans rfl
  have b0 : w4.cell? ⟨w.heap.size + 1 + 1, 0, none⟩ = some (.slice A0 n0 c0) := (cell_of_row _ _ 0 _ _ (0, 0) k2).trans rfl
  have f0 := frozen_of_row _ _ 0 _ _ k2
  have r0 : w4.cell? ⟨w.heap.size + 1, 0, none⟩ = some (.slice none 0 0) := (cell_of_row _ _ 0 _ _ (0, 0) k1).trans rfl
  have s0 := frozen_of_row _ _ 0 _ _ k1
  have a1 : w4.cell? ⟨w.heap.size, 1, none⟩ = some (v1) := (cell_of_row _ _ 1 _ _ (0, 0) k0).trans rfl
  have b1 : w4.cell? ⟨w.heap.size + 1 + 1, 1, none⟩ = some (.slice A1 n1 c1) := (cell_of_row _ _ 1 _ _ (0, 0) k2).trans rfl
  have f1 := frozen_of_row _ _ 1 _ _ k2
  have r1 : w4.cell? ⟨w.heap.size + 1, 1, none⟩ = some (.slice none 0 0) := (cell_of_row _ _ 1 _ _ (0, 0) k1).trans rfl
  have s1 := frozen_of_row _ _ 1 _ _ k1
  have a2 : w4.cell? ⟨w.heap.size, 2, none⟩ = some (.string v2) := (cell_of_row _ _ 2 _ _ (0, 0) k0).trans rfl
  have b2 : w4.cell? ⟨w.heap.size + 1 + 1, 2, none⟩ = some (.string v2) := (cell_of_row _ _ 2 _ _ (0, 0) k2).trans rfl
  have f2 := frozen_of_row _ _ 2 _ _ k2
  have r2 : w4.cell? ⟨w.heap.size + 1, 2, none⟩ = some (.string { data := #[] }) := (cell_of_row _ _ 2 _ _ (0, 0) k1).trans rfl
  have s2 := frozen_of_row _ _ 2 _ _ k1
  have a3 : w4.cell? ⟨w.heap.size, 3, none⟩ = some (v3) := (cell_of_row _ _ 3 _ _ (0, 0) k0).trans rfl
  have b3 : w4.cell? ⟨w.heap.size + 1 + 1, 3, none⟩ = some (.slice A3 n3 c3) := (cell_of_row _ _ 3 _ _ (0, 0) k2).trans rfl
  have f3 := frozen_of_row _ _ 3 _ _ k2
  have r3 : w4.cell? ⟨w.heap.size + 1, 3, none⟩ = some (.slice none 0 0) := (cell_of_row _ _ 3 _ _ (0, 0) k1).trans rfl
  have s3 := frozen_of_row _ _ 3 _ _ k1
  have a4 : w4.cell? ⟨w.heap.size, 4, none⟩ = some (v4) := (cell_of_row _ _ 4 _ _ (0, 0) k0).trans rfl
  have b4 : w4.cell? ⟨w.heap.size + 1 + 1, 4, none⟩ = some (.slice none 0 0) := (cell_of_row _ _ 4 _ _ (0, 0) k2).trans rfl
  have f4 := frozen_of_row _ _ 4 _ _ k2
  have r4 : w4.cell? ⟨w.heap.size + 1, 4, none⟩ = some (.slice none 0 0) := (cell_of_row _ _ 4 _ _ (0, 0) k1).trans rfl
  have s4 := frozen_of_row _ _ 4 _ _ k1
  go_wp2_with fail
  replace k0 : (w4.setCell ⟨w.heap.size + 1 + 1, 4, none⟩ (.slice A4 n4 c4)).heap[w.heap.size]? = _ := (Below.heap_setCell _ _ _ _ (by show w.heap.size ≠ w.heap.size + 1 + 1; omega)).trans k0
  replace k1 : (w4.setCell ⟨w.heap.size + 1 + 1, 4, none⟩ (.slice A4 n4 c4)).heap[w.heap.size + 1]? = _ := (Below.heap_setCell _ _ _ _ (by show w.heap.size + 1 ≠ w.heap.size + 1 + 1; omega)).trans k1
  replace k2 : (w4.setCell ⟨w.heap.size + 1 + 1, 4, none⟩ (.slice A4 n4 c4)).heap[w.heap.size + 1 + 1]? = some (.cells #[.slice A0 n0 c0, .slice A1 n1 c1, .string v2, .slice A3 n3 c3, .slice A4 n4 c4] 103 (0, 0)) := heap_setCell_same _ _ _ _ _ _ k2
  replace hb : Below w.heap.size w (w4.setCell ⟨w.heap.size + 1 + 1, 4, none⟩ (.slice A4 n4 c4)) := hb.setCell (by show w.heap.size ≤ w.heap.size + 1 + 1; omega) _
  replace hz : w.heap.size + 1 + 1 < (w4.setCell ⟨w.heap.size + 1 + 1, 4, none⟩ (.slice A4 n4 c4)).heap.size := by rw [World.size_setCell]; exact hz
  replace g0 := g0.only ((Only.refl (w.heap.size + 1 + 1) (w.heap.size + 1 + 1 + 1) w4).setCell (p := ⟨w.heap.size + 1 + 1, 4, none⟩) (Nat.le_refl _) (Nat.lt_succ_self _) (.slice A4 n4 c4)) (.inr (by omega))
  replace g1 := g1.only ((Only.refl (w.heap.size + 1 + 1) (w.heap.size + 1 + 1 + 1) w4).setCell (p := ⟨w.heap.size + 1 + 1, 4, none⟩) (Nat.le_refl _) (Nat.lt_succ_self _) (.slice A4 n4 c4)) (.inr (by omega))
  replace g3 := g3.only ((Only.refl (w.heap.size + 1 + 1) (w.heap.size + 1 + 1 + 1) w4).setCell (p := ⟨w.heap.size + 1 + 1, 4, none⟩) (Nat.le_refl _) (Nat.lt_succ_self _) (.slice A4 n4 c4)) (.inr (by omega))
  replace g4 := g4.only ((Only.refl (w.heap.size + 1 + 1) (w.heap.size + 1 + 1 + 1) w4).setCell (p := ⟨w.heap.size + 1 + 1, 4, none⟩) (Nat.le_refl _) (Nat.lt_succ_self _) (.slice A4 n4 c4)) (.inr (by omega))
  have hbF : Below w.heap.size w ((((((w4.setCell ⟨w.heap.size + 1 + 1, 4, none⟩ (.slice A4 n4 c4)).setCell ⟨w.heap.size + 1, 0, none⟩ (.slice A0 n0 c0)).setCell ⟨w.heap.size + 1, 1, none⟩ (.slice A1 n1 c1)).setCell ⟨w.heap.size + 1, 2, none⟩ (.string v2)).setCell ⟨w.heap.size + 1, 3, none⟩ (.slice A3 n3 c3)).setCell ⟨w.heap.size + 1, 4, none⟩ (.slice A4 n4 c4)) := (((((hb.setCell (by show w.heap.size ≤ w.heap.size + 1; omega) _).setCell (by show w.heap.size ≤ w.heap.size + 1; omega) _).setCell (by show w.heap.size ≤ w.heap.size + 1; omega) _).setCell (by show w.heap.size ≤ w.heap.size + 1; omega) _).setCell (by show w.heap.size ≤ w.heap.size + 1; omega) _)
  have hoF : Only (w.heap.size + 1) (w.heap.size + 1 + 1) (w4.setCell ⟨w.heap.size + 1 + 1, 4, none⟩ (.slice A4 n4 c4)) ((((((w4.setCell ⟨w.heap.size + 1 + 1, 4, none⟩ (.slice A4 n4 c4)).setCell ⟨w.heap.size + 1, 0, none⟩ (.slice A0 n0 c0)).setCell ⟨w.heap.size + 1, 1, none⟩ (.slice A1 n1 c1)).setCell ⟨w.heap.size + 1, 2, none⟩ (.string v2)).setCell ⟨w.heap.size + 1, 3, none⟩ (.slice A3 n3 c3)).setCell ⟨w.heap.size + 1, 4, none⟩ (.slice A4 n4 c4)) := ((((((Only.refl (w.heap.size + 1) (w.heap.size + 1 + 1) (w4.setCell ⟨w.heap.size + 1 + 1, 4, none⟩ (.slice A4 n4 c4))).setCell (p := ⟨w.heap.size + 1, 0, none⟩) (Nat.le_refl _) (Nat.lt_succ_self _) (.slice A0 n0 c0)).setCell (p := ⟨w.heap.size + 1, 1, none⟩) (Nat.le_refl _) (Nat.lt_succ_self _) (.slice A1 n1 c1)).setCell (p := ⟨w.heap.size + 1, 2, none⟩) (Nat.le_refl _) (Nat.lt_succ_self _) (.string v2)).setCell (p := ⟨w.heap.size + 1, 3, none⟩) (Nat.le_refl _) (Nat.lt_succ_self _) (.slice A3 n3 c3)).setCell (p := ⟨w.heap.size + 1, 4, none⟩) (Nat.le_refl _) (Nat.lt_succ_self _) (.slice A4 n4 c4))
  replace g0 := (g0.only hoF (.inr (by omega))).more (lo' := w.heap.size) (hi' := ((((((w4.setCell ⟨w.heap.size + 1 + 1, 4, none⟩ (.slice A4 n4 c4)).setCell ⟨w.heap.size + 1, 0, none⟩ (.slice A0 n0 c0)).setCell ⟨w.heap.size + 1, 1, none⟩ (.slice A1 n1 c1)).setCell ⟨w.heap.size + 1, 2, none⟩ (.string v2)).setCell ⟨w.heap.size + 1, 3, none⟩ (.slice A3 n3 c3)).setCell ⟨w.heap.size + 1, 4, none⟩ (.slice A4 n4 c4)).heap.size) (by omega) (by simp only [World.size_setCell]; exact Nat.le_refl _)
  replace g1 := (g1.only hoF (.inr (by omega))).more (lo' := w.heap.size) (hi' := ((((((w4.setCell ⟨w.heap.size + 1 + 1, 4, none⟩ (.slice A4 n4 c4)).setCell ⟨w.heap.size + 1, 0, none⟩ (.slice A0 n0 c0)).setCell ⟨w.heap.size + 1, 1, none⟩ (.slice A1 n1 c1)).setCell ⟨w.heap.size + 1, 2, none⟩ (.string v2)).setCell ⟨w.heap.size + 1, 3, none⟩ (.slice A3 n3 c3)).setCell ⟨w.heap.size + 1, 4, none⟩ (.slice A4 n4 c4)).heap.size) (by omega) (by simp only [World.size_setCell]; exact Nat.le_refl _)
  replace g3 := (g3.only hoF (.inr (by omega))).more (lo' := w.heap.size) (hi' := ((((((w4.setCell ⟨w.heap.size + 1 + 1, 4, none⟩ (.slice A4 n4 c4)).setCell ⟨w.heap.size + 1, 0, none⟩ (.slice A0 n0 c0)).setCell ⟨w.heap.size + 1, 1, none⟩ (.slice A1 n1 c1)).setCell ⟨w.heap.size + 1, 2, none⟩ (.string v2)).setCell ⟨w.heap.size + 1, 3, none⟩ (.slice A3 n3 c3)).setCell ⟨w.heap.size + 1, 4, none⟩ (.slice A4 n4 c4)).heap.size) (by omega) (by simp only [World.size_setCell]; exact Nat.le_refl _)
  replace g4 := (g4.only hoF (.inr (by omega))).more (lo' := w.heap.size) (hi' := ((((((w4.setCell ⟨w.heap.size + 1 + 1, 4, none⟩ (.slice A4 n4 c4)).setCell ⟨w.heap.size + 1, 0, none⟩ (.slice A0 n0 c0)).setCell ⟨w.heap.size + 1, 1, none⟩ (.slice A1 n1 c1)).setCell ⟨w.heap.size + 1, 2, none⟩ (.string v2)).setCell ⟨w.heap.size + 1, 3, none⟩ (.slice A3 n3 c3)).setCell ⟨w.heap.size + 1, 4, none⟩ (.slice A4 n4 c4)).heap.size) (by omega) (by simp only [World.size_setCell]; exact Nat.le_refl _)
  have kF : ((((((w4.setCell ⟨w.heap.size + 1 + 1, 4, none⟩ (.slice A4 n4 c4)).setCell ⟨w.heap.size + 1, 0, none⟩ (.slice A0 n0 c0)).setCell ⟨w.heap.size + 1, 1, none⟩ (.slice A1 n1 c1)).setCell ⟨w.heap.size + 1, 2, none⟩ (.string v2)).setCell ⟨w.heap.size + 1, 3, none⟩ (.slice A3 n3 c3)).setCell ⟨w.heap.size + 1, 4, none⟩ (.slice A4 n4 c4)).heap[w.heap.size + 1]? = some (.cells #[.slice A0 n0 c0, .slice A1 n1 c1, .string v2, .slice A3 n3 c3, .slice A4 n4 c4] 103 (0, 0)) := (heap_setCell_same _ _ _ _ _ _ (heap_setCell_same _ _ _ _ _ _ (heap_setCell_same _ _ _ _ _ _ (heap_setCell_same _ _ _ _ _ _ (heap_setCell_same _ _ _ _ _ _ k1)))))
  clear a0 b0 f0 r0 s0 a1 b1 f1 r1 s1 a2 b2 f2 r2 s2 a3 b3 f3 r3 s3 a4 b4 f4 r4 s4
  have rF0 : ((((((w4.setCell ⟨w.heap.size + 1 + 1, 4, none⟩ (.slice A4 n4 c4)).setCell ⟨w.heap.size + 1, 0, none⟩ (.slice A0 n0 c0)).setCell ⟨w.heap.size + 1, 1, none⟩ (.slice A1 n1 c1)).setCell ⟨w.heap.size + 1, 2, none⟩ (.string v2)).setCell ⟨w.heap.size + 1, 3, none⟩ (.slice A3 n3 c3)).setCell ⟨w.heap.size + 1, 4, none⟩ (.slice A4 n4 c4)).cell? ⟨w.heap.size + 1, 0, none⟩ = some (.slice A0 n0 c0) := (cell_of_row _ _ 0 _ _ (0, 0) kF).trans rfl
  have rF1 : ((((((w4.setCell ⟨w.heap.size + 1 + 1, 4, none⟩ (.slice A4 n4 c4)).setCell ⟨w.heap.size + 1, 0, none⟩ (.slice A0 n0 c0)).setCell ⟨w.heap.size + 1, 1, none⟩ (.slice A1 n1 c1)).setCell ⟨w.heap.size + 1, 2, none⟩ (.string v2)).setCell ⟨w.heap.size + 1, 3, none⟩ (.slice A3 n3 c3)).setCell ⟨w.heap.size + 1, 4, none⟩ (.slice A4 n4 c4)).cell? ⟨w.heap.size + 1, 1, none⟩ = some (.slice A1 n1 c1) := (cell_of_row _ _ 1 _ _ (0, 0) kF).trans rfl
  have rF2 : ((((((w4.setCell ⟨w.heap.size + 1 + 1, 4, none⟩ (.slice A4 n4 c4)).setCell ⟨w.heap.size + 1, 0, none⟩ (.slice A0 n0 c0)).setCell ⟨w.heap.size + 1, 1, none⟩ (.slice A1 n1 c1)).setCell ⟨w.heap.size + 1, 2, none⟩ (.string v2)).setCell ⟨w.heap.size + 1, 3, none⟩ (.slice A3 n3 c3)).setCell ⟨w.heap.size + 1, 4, none⟩ (.slice A4 n4 c4)).cell? ⟨w.heap.size + 1, 2, none⟩ = some (.string v2) := (cell_of_row _ _ 2 _ _ (0, 0) kF).trans rfl
  have rF3 : ((((((w4.setCell ⟨w.heap.size + 1 + 1, 4, none⟩ (.slice A4 n4 c4)).setCell ⟨w.heap.size + 1, 0, none⟩ (.slice A0 n0 c0)).setCell ⟨w.heap.size + 1, 1, none⟩ (.slice A1 n1 c1)).setCell ⟨w.heap.size + 1, 2, none⟩ (.string v2)).setCell ⟨w.heap.size + 1, 3, none⟩ (.slice A3 n3 c3)).setCell ⟨w.heap.size + 1, 4, none⟩ (.slice A4 n4 c4)).cell? ⟨w.heap.size + 1, 3, none⟩ = some (.slice A3 n3 c3) := (cell_of_row _ _ 3 _ _ (0, 0) kF).trans rfl
  have rF4 : ((((((w4.setCell ⟨w.heap.size + 1 + 1, 4, none⟩ (.slice A4 n4 c4)).setCell ⟨w.heap.size + 1, 0, none⟩ (.slice A0 n0 c0)).setCell ⟨w.heap.size + 1, 1, none⟩ (.slice A1 n1 c1)).setCell ⟨w.heap.size + 1, 2, none⟩ (.string v2)).setCell ⟨w.heap.size + 1, 3, none⟩ (.slice A3 n3 c3)).setCell ⟨w.heap.size + 1, 4, none⟩ (.slice A4 n4 c4)).cell? ⟨w.heap.size + 1, 4, none⟩ = some (.slice A4 n4 c4) := (cell_of_row _ _ 4 _ _ (0, 0) kF).trans rfl
  clear hoF hb hz k0 k1 k2 kF q0 q1 q3 q4
  generalize ((((((w4.setCell ⟨w.heap.size + 1 + 1, 4, none⟩ (.slice A4 n4 c4)).setCell ⟨w.heap.size + 1, 0, none⟩ (.slice A0 n0 c0)).setCell ⟨w.heap.size + 1, 1, none⟩ (.slice A1 n1 c1)).setCell ⟨w.heap.size + 1, 2, none⟩ (.string v2)).setCell ⟨w.heap.size + 1, 3, none⟩ (.slice A3 n3 c3)).setCell ⟨w.heap.size + 1, 4, none⟩ (.slice A4 n4 c4)) = WF at *
  refine bodyPost_ret (by simp [results, Try.results112, go_sem, rF0, rF1, rF2, rF3, rF4]; try rfl) rfl ?_
  exact ⟨(.slice A0 n0 c0, .slice A1 n1 c1, v2, .slice A3 n3 c3, .slice A4 n4 c4), rfl, ⟨g0, g1, ⟨rfl, hn2⟩, g3, g4⟩, hbF⟩

-- END toSummand

end Go.Proofs.Ytdjhpdmpibokhaa
