/-
  The law FnExactSameVerdicts returns true for every input. Conditions: none.
-/
import Derived.Test.YtnhomkmfbngmgaaGreatDoorBaseK
import Derived.Deep.DeepCutAuto
namespace Go.Proofs.YtnhomkmfbngmgaaGreatDoor.lawSameVerdicts
open Go.ChangeShapes Go.WideShapes Go.ChangeAt Go.RowKit
set_option linter.unusedVariables false

theorem own : ownKnob Tryz.prog.godebug = none := by kernel_rfl
theorem laidOut : laidOutB Tryz.prog = true := fact_laid

theorem shape_M {v : Value} {d : DM} {w : World} {lo hi : Nat} (h : ArgM w lo hi v d) : ∃ (p0 : Int) (p1 : Int) (pA2 : Option Addr) (pn2 pc2 : Nat) (pA3 : Option Addr) (pn3 pc3 : Nat) (pA4 : Option Addr) (pn4 pc4 : Nat), v = .agg #[.int .i64 p0, .int .i64 p1, .slice pA2 pn2 pc2, .slice pA3 pn3 pc3, .slice pA4 pn4 pc4] := by
  obtain ⟨x, v4, rfl, h, a0⟩ := h
  obtain ⟨A2, n2, c2, e2⟩ := h.2.2.1.shape
  obtain ⟨A3, n3, c3, e3⟩ := h.2.2.2.shape
  obtain ⟨A4, n4, c4, e4⟩ := a0.shape
  rw [e2, e3, e4]
  exact ⟨_, _, _, _, _, _, _, _, _, _, _, rfl⟩

set_option maxHeartbeats 25600000 in
set_option maxRecDepth 100000 in
theorem walk (v0 : Value) (d0 : DM) (v1 : Value) (d1 : DM) (w : World) (he : Env w) (h0 : ArgM w 0 w.heap.size v0 d0) (h1 : ArgM w 0 w.heap.size v1 d1) :
    Calls Tryz.prog 4 #[v0, v1] w fun e w' => e = .returned (.bool true) ∧ Below w.heap.size w w' := by
  obtain ⟨p0_0, p0_1, p0_A2, p0_n2, p0_c2, p0_A3, p0_n3, p0_c3, p0_A4, p0_n4, p0_c4, rfl⟩ := shape_M h0
  obtain ⟨p1_0, p1_1, p1_A2, p1_n2, p1_c2, p1_A3, p1_n3, p1_c3, p1_A4, p1_n4, p1_c4, rfl⟩ := shape_M h1
  have bel : Below w.heap.size w ((w.alloc (.cells #[.int .i64 p0_0, .int .i64 p0_1, .slice p0_A2 p0_n2 p0_c2, .slice p0_A3 p0_n3 p0_c3, .slice p0_A4 p0_n4 p0_c4] 47)).alloc (.cells #[.int .i64 p1_0, .int .i64 p1_1, .slice p1_A2 p1_n2 p1_c2, .slice p1_A3 p1_n3 p1_c3, .slice p1_A4 p1_n4 p1_c4] 47)) := (((Below.refl w.heap.size w).alloc (Nat.le_refl _) _).alloc (by simp only [World.size_alloc]; omega) _)
  have k0_ : ((w.alloc (.cells #[.int .i64 p0_0, .int .i64 p0_1, .slice p0_A2 p0_n2 p0_c2, .slice p0_A3 p0_n3 p0_c3, .slice p0_A4 p0_n4 p0_c4] 47)).alloc (.cells #[.int .i64 p1_0, .int .i64 p1_1, .slice p1_A2 p1_n2 p1_c2, .slice p1_A3 p1_n3 p1_c3, .slice p1_A4 p1_n4 p1_c4] 47)).heap[w.heap.size]? = some (.cells #[.int .i64 p0_0, .int .i64 p0_1, .slice p0_A2 p0_n2 p0_c2, .slice p0_A3 p0_n3 p0_c3, .slice p0_A4 p0_n4 p0_c4] 47 (0, 0)) := by
    have h := heap_alloc_new w (.cells #[.int .i64 p0_0, .int .i64 p0_1, .slice p0_A2 p0_n2 p0_c2, .slice p0_A3 p0_n3 p0_c3, .slice p0_A4 p0_n4 p0_c4] 47)
    exact ((Below.heap_alloc _ _ _ (by simp only [World.size_alloc]; omega)).trans h)
  have hz0 : w.heap.size < ((w.alloc (.cells #[.int .i64 p0_0, .int .i64 p0_1, .slice p0_A2 p0_n2 p0_c2, .slice p0_A3 p0_n3 p0_c3, .slice p0_A4 p0_n4 p0_c4] 47)).alloc (.cells #[.int .i64 p1_0, .int .i64 p1_1, .slice p1_A2 p1_n2 p1_c2, .slice p1_A3 p1_n3 p1_c3, .slice p1_A4 p1_n4 p1_c4] 47)).heap.size := by simp only [World.size_alloc]; omega
  have k1_ : ((w.alloc (.cells #[.int .i64 p0_0, .int .i64 p0_1, .slice p0_A2 p0_n2 p0_c2, .slice p0_A3 p0_n3 p0_c3, .slice p0_A4 p0_n4 p0_c4] 47)).alloc (.cells #[.int .i64 p1_0, .int .i64 p1_1, .slice p1_A2 p1_n2 p1_c2, .slice p1_A3 p1_n3 p1_c3, .slice p1_A4 p1_n4 p1_c4] 47)).heap[w.heap.size + 1]? = some (.cells #[.int .i64 p1_0, .int .i64 p1_1, .slice p1_A2 p1_n2 p1_c2, .slice p1_A3 p1_n3 p1_c3, .slice p1_A4 p1_n4 p1_c4] 47 (0, 0)) := by
    have h := heap_alloc_new (w.alloc (.cells #[.int .i64 p0_0, .int .i64 p0_1, .slice p0_A2 p0_n2 p0_c2, .slice p0_A3 p0_n3 p0_c3, .slice p0_A4 p0_n4 p0_c4] 47)) (.cells #[.int .i64 p1_0, .int .i64 p1_1, .slice p1_A2 p1_n2 p1_c2, .slice p1_A3 p1_n3 p1_c3, .slice p1_A4 p1_n4 p1_c4] 47)
    simp only [World.size_alloc] at h
    exact h
  have hz1 : w.heap.size + 1 < ((w.alloc (.cells #[.int .i64 p0_0, .int .i64 p0_1, .slice p0_A2 p0_n2 p0_c2, .slice p0_A3 p0_n3 p0_c3, .slice p0_A4 p0_n4 p0_c4] 47)).alloc (.cells #[.int .i64 p1_0, .int .i64 p1_1, .slice p1_A2 p1_n2 p1_c2, .slice p1_A3 p1_n3 p1_c3, .slice p1_A4 p1_n4 p1_c4] 47)).heap.size := by simp only [World.size_alloc]; omega
  replace h0 := h0.below bel (.inr (Nat.le_refl _))
  replace h1 := h1.below bel (.inr (Nat.le_refl _))
  have he0 := he
  replace he := he.below bel (Nat.le_refl _)
  have sz0 := fun (W : World) (B : Nat) (hW : Below B ((w.alloc (.cells #[.int .i64 p0_0, .int .i64 p0_1, .slice p0_A2 p0_n2 p0_c2, .slice p0_A3 p0_n3 p0_c3, .slice p0_A4 p0_n4 p0_c4] 47)).alloc (.cells #[.int .i64 p1_0, .int .i64 p1_1, .slice p1_A2 p1_n2 p1_c2, .slice p1_A3 p1_n3 p1_c3, .slice p1_A4 p1_n4 p1_c4] 47)) W) (hB : ((w.alloc (.cells #[.int .i64 p0_0, .int .i64 p0_1, .slice p0_A2 p0_n2 p0_c2, .slice p0_A3 p0_n3 p0_c3, .slice p0_A4 p0_n4 p0_c4] 47)).alloc (.cells #[.int .i64 p1_0, .int .i64 p1_1, .slice p1_A2 p1_n2 p1_c2, .slice p1_A3 p1_n3 p1_c3, .slice p1_A4 p1_n4 p1_c4] 47)).heap.size ≤ B) => szMonitor_u (left := 1048576) (h0.below hW (.inr hB)) (by omega) (by omega)
  by_cases big0 : 1048576 < (totM d0 : Int)
  · simp only [szLeft_big big0] at sz0
    replace sz0 := hide sz0
    clear h0 h1
    go_enter Tryz.func4, Tryz.ntmps4
    go_wp2_with fail
    generalize ((w.alloc (.cells #[.int .i64 p0_0, .int .i64 p0_1, .slice p0_A2 p0_n2 p0_c2, .slice p0_A3 p0_n3 p0_c3, .slice p0_A4 p0_n4 p0_c4] 47)).alloc (.cells #[.int .i64 p1_0, .int .i64 p1_1, .slice p1_A2 p1_n2 p1_c2, .slice p1_A3 p1_n3 p1_c3, .slice p1_A4 p1_n4 p1_c4] 47)) = w0 at *
    have sb := Below.refl w0.heap.size w0
    have ck0_0 : w0.cell? ⟨w.heap.size, 0, none⟩ = some (.int .i64 p0_0) := (cell_of_row _ _ 0 _ _ (0, 0) k0_).trans rfl
    have ck0_1 : w0.cell? ⟨w.heap.size, 1, none⟩ = some (.int .i64 p0_1) := (cell_of_row _ _ 1 _ _ (0, 0) k0_).trans rfl
    have ck0_2 : w0.cell? ⟨w.heap.size, 2, none⟩ = some (.slice p0_A2 p0_n2 p0_c2) := (cell_of_row _ _ 2 _ _ (0, 0) k0_).trans rfl
    have ck0_3 : w0.cell? ⟨w.heap.size, 3, none⟩ = some (.slice p0_A3 p0_n3 p0_c3) := (cell_of_row _ _ 3 _ _ (0, 0) k0_).trans rfl
    have ck0_4 : w0.cell? ⟨w.heap.size, 4, none⟩ = some (.slice p0_A4 p0_n4 p0_c4) := (cell_of_row _ _ 4 _ _ (0, 0) k0_).trans rfl
    have ck1_0 : w0.cell? ⟨w.heap.size + 1, 0, none⟩ = some (.int .i64 p1_0) := (cell_of_row _ _ 0 _ _ (0, 0) k1_).trans rfl
    have ck1_1 : w0.cell? ⟨w.heap.size + 1, 1, none⟩ = some (.int .i64 p1_1) := (cell_of_row _ _ 1 _ _ (0, 0) k1_).trans rfl
    have ck1_2 : w0.cell? ⟨w.heap.size + 1, 2, none⟩ = some (.slice p1_A2 p1_n2 p1_c2) := (cell_of_row _ _ 2 _ _ (0, 0) k1_).trans rfl
    have ck1_3 : w0.cell? ⟨w.heap.size + 1, 3, none⟩ = some (.slice p1_A3 p1_n3 p1_c3) := (cell_of_row _ _ 3 _ _ (0, 0) k1_).trans rfl
    have ck1_4 : w0.cell? ⟨w.heap.size + 1, 4, none⟩ = some (.slice p1_A4 p1_n4 p1_c4) := (cell_of_row _ _ 4 _ _ (0, 0) k1_).trans rfl
    refine (sz0.out _ _ sb (Nat.le_refl _)).mono ?_
    rintro e s0 ⟨rfl, hb⟩
    replace sb := sb.trans (hb.mono sb.size)
    clear ck0_0 ck0_1 ck0_2 ck0_3 ck0_4 ck1_0 ck1_1 ck1_2 ck1_3 ck1_4
    replace k0_ := (hb.block _ hz0).trans k0_
    replace hz0 := Nat.lt_of_lt_of_le hz0 hb.size
    replace k1_ := (hb.block _ hz1).trans k1_
    replace hz1 := Nat.lt_of_lt_of_le hz1 hb.size
    replace bel := bel.trans (hb.mono bel.size)
    have zzs0 := hb.size
    clear hb
    have ck0_0 : s0.cell? ⟨w.heap.size, 0, none⟩ = some (.int .i64 p0_0) := (cell_of_row _ _ 0 _ _ (0, 0) k0_).trans rfl
    have ck0_1 : s0.cell? ⟨w.heap.size, 1, none⟩ = some (.int .i64 p0_1) := (cell_of_row _ _ 1 _ _ (0, 0) k0_).trans rfl
    have ck0_2 : s0.cell? ⟨w.heap.size, 2, none⟩ = some (.slice p0_A2 p0_n2 p0_c2) := (cell_of_row _ _ 2 _ _ (0, 0) k0_).trans rfl
    have ck0_3 : s0.cell? ⟨w.heap.size, 3, none⟩ = some (.slice p0_A3 p0_n3 p0_c3) := (cell_of_row _ _ 3 _ _ (0, 0) k0_).trans rfl
    have ck0_4 : s0.cell? ⟨w.heap.size, 4, none⟩ = some (.slice p0_A4 p0_n4 p0_c4) := (cell_of_row _ _ 4 _ _ (0, 0) k0_).trans rfl
    have ck1_0 : s0.cell? ⟨w.heap.size + 1, 0, none⟩ = some (.int .i64 p1_0) := (cell_of_row _ _ 0 _ _ (0, 0) k1_).trans rfl
    have ck1_1 : s0.cell? ⟨w.heap.size + 1, 1, none⟩ = some (.int .i64 p1_1) := (cell_of_row _ _ 1 _ _ (0, 0) k1_).trans rfl
    have ck1_2 : s0.cell? ⟨w.heap.size + 1, 2, none⟩ = some (.slice p1_A2 p1_n2 p1_c2) := (cell_of_row _ _ 2 _ _ (0, 0) k1_).trans rfl
    have ck1_3 : s0.cell? ⟨w.heap.size + 1, 3, none⟩ = some (.slice p1_A3 p1_n3 p1_c3) := (cell_of_row _ _ 3 _ _ (0, 0) k1_).trans rfl
    have ck1_4 : s0.cell? ⟨w.heap.size + 1, 4, none⟩ = some (.slice p1_A4 p1_n4 p1_c4) := (cell_of_row _ _ 4 _ _ (0, 0) k1_).trans rfl
    go_wp2_with fail
    go_ret
    exact ⟨rfl, bel⟩
  simp only [szLeft_fits big0] at sz0
  replace sz0 := hide sz0
  have ns0 : totM d0 ≤ 1048576 := by omega
  have nl0 : ¬ 1048576 - (totM d0 : Int) < 0 := by omega
  have sz1 := fun (W : World) (B : Nat) (hW : Below B ((w.alloc (.cells #[.int .i64 p0_0, .int .i64 p0_1, .slice p0_A2 p0_n2 p0_c2, .slice p0_A3 p0_n3 p0_c3, .slice p0_A4 p0_n4 p0_c4] 47)).alloc (.cells #[.int .i64 p1_0, .int .i64 p1_1, .slice p1_A2 p1_n2 p1_c2, .slice p1_A3 p1_n3 p1_c3, .slice p1_A4 p1_n4 p1_c4] 47)) W) (hB : ((w.alloc (.cells #[.int .i64 p0_0, .int .i64 p0_1, .slice p0_A2 p0_n2 p0_c2, .slice p0_A3 p0_n3 p0_c3, .slice p0_A4 p0_n4 p0_c4] 47)).alloc (.cells #[.int .i64 p1_0, .int .i64 p1_1, .slice p1_A2 p1_n2 p1_c2, .slice p1_A3 p1_n3 p1_c3, .slice p1_A4 p1_n4 p1_c4] 47)).heap.size ≤ B) => szMonitor_u (left := 1048576 - (totM d0 : Int)) (h1.below hW (.inr hB)) (by omega) (by omega)
  by_cases big1 : 1048576 - (totM d0 : Int) < (totM d1 : Int)
  · simp only [szLeft_big big1] at sz1
    replace sz1 := hide sz1
    clear h0 h1
    go_enter Tryz.func4, Tryz.ntmps4
    go_wp2_with fail
    generalize ((w.alloc (.cells #[.int .i64 p0_0, .int .i64 p0_1, .slice p0_A2 p0_n2 p0_c2, .slice p0_A3 p0_n3 p0_c3, .slice p0_A4 p0_n4 p0_c4] 47)).alloc (.cells #[.int .i64 p1_0, .int .i64 p1_1, .slice p1_A2 p1_n2 p1_c2, .slice p1_A3 p1_n3 p1_c3, .slice p1_A4 p1_n4 p1_c4] 47)) = w0 at *
    have sb := Below.refl w0.heap.size w0
    have ck0_0 : w0.cell? ⟨w.heap.size, 0, none⟩ = some (.int .i64 p0_0) := (cell_of_row _ _ 0 _ _ (0, 0) k0_).trans rfl
    have ck0_1 : w0.cell? ⟨w.heap.size, 1, none⟩ = some (.int .i64 p0_1) := (cell_of_row _ _ 1 _ _ (0, 0) k0_).trans rfl
    have ck0_2 : w0.cell? ⟨w.heap.size, 2, none⟩ = some (.slice p0_A2 p0_n2 p0_c2) := (cell_of_row _ _ 2 _ _ (0, 0) k0_).trans rfl
    have ck0_3 : w0.cell? ⟨w.heap.size, 3, none⟩ = some (.slice p0_A3 p0_n3 p0_c3) := (cell_of_row _ _ 3 _ _ (0, 0) k0_).trans rfl
    have ck0_4 : w0.cell? ⟨w.heap.size, 4, none⟩ = some (.slice p0_A4 p0_n4 p0_c4) := (cell_of_row _ _ 4 _ _ (0, 0) k0_).trans rfl
    have ck1_0 : w0.cell? ⟨w.heap.size + 1, 0, none⟩ = some (.int .i64 p1_0) := (cell_of_row _ _ 0 _ _ (0, 0) k1_).trans rfl
    have ck1_1 : w0.cell? ⟨w.heap.size + 1, 1, none⟩ = some (.int .i64 p1_1) := (cell_of_row _ _ 1 _ _ (0, 0) k1_).trans rfl
    have ck1_2 : w0.cell? ⟨w.heap.size + 1, 2, none⟩ = some (.slice p1_A2 p1_n2 p1_c2) := (cell_of_row _ _ 2 _ _ (0, 0) k1_).trans rfl
    have ck1_3 : w0.cell? ⟨w.heap.size + 1, 3, none⟩ = some (.slice p1_A3 p1_n3 p1_c3) := (cell_of_row _ _ 3 _ _ (0, 0) k1_).trans rfl
    have ck1_4 : w0.cell? ⟨w.heap.size + 1, 4, none⟩ = some (.slice p1_A4 p1_n4 p1_c4) := (cell_of_row _ _ 4 _ _ (0, 0) k1_).trans rfl
    refine (sz0.out _ _ sb (Nat.le_refl _)).mono ?_
    rintro e s0 ⟨rfl, hb⟩
    replace sb := sb.trans (hb.mono sb.size)
    clear ck0_0 ck0_1 ck0_2 ck0_3 ck0_4 ck1_0 ck1_1 ck1_2 ck1_3 ck1_4
    replace k0_ := (hb.block _ hz0).trans k0_
    replace hz0 := Nat.lt_of_lt_of_le hz0 hb.size
    replace k1_ := (hb.block _ hz1).trans k1_
    replace hz1 := Nat.lt_of_lt_of_le hz1 hb.size
    replace bel := bel.trans (hb.mono bel.size)
    have zzs0 := hb.size
    clear hb
    have ck0_0 : s0.cell? ⟨w.heap.size, 0, none⟩ = some (.int .i64 p0_0) := (cell_of_row _ _ 0 _ _ (0, 0) k0_).trans rfl
    have ck0_1 : s0.cell? ⟨w.heap.size, 1, none⟩ = some (.int .i64 p0_1) := (cell_of_row _ _ 1 _ _ (0, 0) k0_).trans rfl
    have ck0_2 : s0.cell? ⟨w.heap.size, 2, none⟩ = some (.slice p0_A2 p0_n2 p0_c2) := (cell_of_row _ _ 2 _ _ (0, 0) k0_).trans rfl
    have ck0_3 : s0.cell? ⟨w.heap.size, 3, none⟩ = some (.slice p0_A3 p0_n3 p0_c3) := (cell_of_row _ _ 3 _ _ (0, 0) k0_).trans rfl
    have ck0_4 : s0.cell? ⟨w.heap.size, 4, none⟩ = some (.slice p0_A4 p0_n4 p0_c4) := (cell_of_row _ _ 4 _ _ (0, 0) k0_).trans rfl
    have ck1_0 : s0.cell? ⟨w.heap.size + 1, 0, none⟩ = some (.int .i64 p1_0) := (cell_of_row _ _ 0 _ _ (0, 0) k1_).trans rfl
    have ck1_1 : s0.cell? ⟨w.heap.size + 1, 1, none⟩ = some (.int .i64 p1_1) := (cell_of_row _ _ 1 _ _ (0, 0) k1_).trans rfl
    have ck1_2 : s0.cell? ⟨w.heap.size + 1, 2, none⟩ = some (.slice p1_A2 p1_n2 p1_c2) := (cell_of_row _ _ 2 _ _ (0, 0) k1_).trans rfl
    have ck1_3 : s0.cell? ⟨w.heap.size + 1, 3, none⟩ = some (.slice p1_A3 p1_n3 p1_c3) := (cell_of_row _ _ 3 _ _ (0, 0) k1_).trans rfl
    have ck1_4 : s0.cell? ⟨w.heap.size + 1, 4, none⟩ = some (.slice p1_A4 p1_n4 p1_c4) := (cell_of_row _ _ 4 _ _ (0, 0) k1_).trans rfl
    go_wp2_with fail
    refine (sz1.out _ _ sb (Nat.le_refl _)).mono ?_
    rintro e s1 ⟨rfl, hb⟩
    replace sb := sb.trans (hb.mono sb.size)
    clear ck0_0 ck0_1 ck0_2 ck0_3 ck0_4 ck1_0 ck1_1 ck1_2 ck1_3 ck1_4
    replace k0_ := (hb.block _ hz0).trans k0_
    replace hz0 := Nat.lt_of_lt_of_le hz0 hb.size
    replace k1_ := (hb.block _ hz1).trans k1_
    replace hz1 := Nat.lt_of_lt_of_le hz1 hb.size
    replace bel := bel.trans (hb.mono bel.size)
    have zzs1 := hb.size
    clear hb
    have ck0_0 : s1.cell? ⟨w.heap.size, 0, none⟩ = some (.int .i64 p0_0) := (cell_of_row _ _ 0 _ _ (0, 0) k0_).trans rfl
    have ck0_1 : s1.cell? ⟨w.heap.size, 1, none⟩ = some (.int .i64 p0_1) := (cell_of_row _ _ 1 _ _ (0, 0) k0_).trans rfl
    have ck0_2 : s1.cell? ⟨w.heap.size, 2, none⟩ = some (.slice p0_A2 p0_n2 p0_c2) := (cell_of_row _ _ 2 _ _ (0, 0) k0_).trans rfl
    have ck0_3 : s1.cell? ⟨w.heap.size, 3, none⟩ = some (.slice p0_A3 p0_n3 p0_c3) := (cell_of_row _ _ 3 _ _ (0, 0) k0_).trans rfl
    have ck0_4 : s1.cell? ⟨w.heap.size, 4, none⟩ = some (.slice p0_A4 p0_n4 p0_c4) := (cell_of_row _ _ 4 _ _ (0, 0) k0_).trans rfl
    have ck1_0 : s1.cell? ⟨w.heap.size + 1, 0, none⟩ = some (.int .i64 p1_0) := (cell_of_row _ _ 0 _ _ (0, 0) k1_).trans rfl
    have ck1_1 : s1.cell? ⟨w.heap.size + 1, 1, none⟩ = some (.int .i64 p1_1) := (cell_of_row _ _ 1 _ _ (0, 0) k1_).trans rfl
    have ck1_2 : s1.cell? ⟨w.heap.size + 1, 2, none⟩ = some (.slice p1_A2 p1_n2 p1_c2) := (cell_of_row _ _ 2 _ _ (0, 0) k1_).trans rfl
    have ck1_3 : s1.cell? ⟨w.heap.size + 1, 3, none⟩ = some (.slice p1_A3 p1_n3 p1_c3) := (cell_of_row _ _ 3 _ _ (0, 0) k1_).trans rfl
    have ck1_4 : s1.cell? ⟨w.heap.size + 1, 4, none⟩ = some (.slice p1_A4 p1_n4 p1_c4) := (cell_of_row _ _ 4 _ _ (0, 0) k1_).trans rfl
    go_wp2_with fail
    go_ret
    exact ⟨rfl, bel⟩
  simp only [szLeft_fits big1] at sz1
  replace sz1 := hide sz1
  have ns1 : totM d1 ≤ 1048576 := by omega
  have nl1 : ¬ 1048576 - (totM d0 : Int) - (totM d1 : Int) < 0 := by omega
  go_enter Tryz.func4, Tryz.ntmps4
  go_wp2_with fail
  generalize ((w.alloc (.cells #[.int .i64 p0_0, .int .i64 p0_1, .slice p0_A2 p0_n2 p0_c2, .slice p0_A3 p0_n3 p0_c3, .slice p0_A4 p0_n4 p0_c4] 47)).alloc (.cells #[.int .i64 p1_0, .int .i64 p1_1, .slice p1_A2 p1_n2 p1_c2, .slice p1_A3 p1_n3 p1_c3, .slice p1_A4 p1_n4 p1_c4] 47)) = w0 at *
  have zzb0 := hz0
  have zzb1 := hz1
  have zzbel := bel.size
  have sb := Below.refl w0.heap.size w0
  have ck0_0 : w0.cell? ⟨w.heap.size, 0, none⟩ = some (.int .i64 p0_0) := (cell_of_row _ _ 0 _ _ (0, 0) k0_).trans rfl
  have ck0_1 : w0.cell? ⟨w.heap.size, 1, none⟩ = some (.int .i64 p0_1) := (cell_of_row _ _ 1 _ _ (0, 0) k0_).trans rfl
  have ck0_2 : w0.cell? ⟨w.heap.size, 2, none⟩ = some (.slice p0_A2 p0_n2 p0_c2) := (cell_of_row _ _ 2 _ _ (0, 0) k0_).trans rfl
  have ck0_3 : w0.cell? ⟨w.heap.size, 3, none⟩ = some (.slice p0_A3 p0_n3 p0_c3) := (cell_of_row _ _ 3 _ _ (0, 0) k0_).trans rfl
  have ck0_4 : w0.cell? ⟨w.heap.size, 4, none⟩ = some (.slice p0_A4 p0_n4 p0_c4) := (cell_of_row _ _ 4 _ _ (0, 0) k0_).trans rfl
  have ck1_0 : w0.cell? ⟨w.heap.size + 1, 0, none⟩ = some (.int .i64 p1_0) := (cell_of_row _ _ 0 _ _ (0, 0) k1_).trans rfl
  have ck1_1 : w0.cell? ⟨w.heap.size + 1, 1, none⟩ = some (.int .i64 p1_1) := (cell_of_row _ _ 1 _ _ (0, 0) k1_).trans rfl
  have ck1_2 : w0.cell? ⟨w.heap.size + 1, 2, none⟩ = some (.slice p1_A2 p1_n2 p1_c2) := (cell_of_row _ _ 2 _ _ (0, 0) k1_).trans rfl
  have ck1_3 : w0.cell? ⟨w.heap.size + 1, 3, none⟩ = some (.slice p1_A3 p1_n3 p1_c3) := (cell_of_row _ _ 3 _ _ (0, 0) k1_).trans rfl
  have ck1_4 : w0.cell? ⟨w.heap.size + 1, 4, none⟩ = some (.slice p1_A4 p1_n4 p1_c4) := (cell_of_row _ _ 4 _ _ (0, 0) k1_).trans rfl
  refine (sz0.out _ _ sb (Nat.le_refl _)).mono ?_
  rintro e w1 ⟨rfl, hb⟩
  replace sb := sb.trans (hb.mono sb.size)
  clear ck0_0 ck0_1 ck0_2 ck0_3 ck0_4 ck1_0 ck1_1 ck1_2 ck1_3 ck1_4
  replace k0_ := (hb.block _ hz0).trans k0_
  replace hz0 := Nat.lt_of_lt_of_le hz0 hb.size
  replace k1_ := (hb.block _ hz1).trans k1_
  replace hz1 := Nat.lt_of_lt_of_le hz1 hb.size
  replace h0 := h0.below hb (.inr (Nat.le_refl _))
  replace h1 := h1.below hb (.inr (Nat.le_refl _))
  replace he := he.below hb (Nat.le_refl _)
  replace bel := bel.trans (hb.mono bel.size)
  have zzw1 := hb.size
  clear hb
  have ck0_0 : w1.cell? ⟨w.heap.size, 0, none⟩ = some (.int .i64 p0_0) := (cell_of_row _ _ 0 _ _ (0, 0) k0_).trans rfl
  have ck0_1 : w1.cell? ⟨w.heap.size, 1, none⟩ = some (.int .i64 p0_1) := (cell_of_row _ _ 1 _ _ (0, 0) k0_).trans rfl
  have ck0_2 : w1.cell? ⟨w.heap.size, 2, none⟩ = some (.slice p0_A2 p0_n2 p0_c2) := (cell_of_row _ _ 2 _ _ (0, 0) k0_).trans rfl
  have ck0_3 : w1.cell? ⟨w.heap.size, 3, none⟩ = some (.slice p0_A3 p0_n3 p0_c3) := (cell_of_row _ _ 3 _ _ (0, 0) k0_).trans rfl
  have ck0_4 : w1.cell? ⟨w.heap.size, 4, none⟩ = some (.slice p0_A4 p0_n4 p0_c4) := (cell_of_row _ _ 4 _ _ (0, 0) k0_).trans rfl
  have ck1_0 : w1.cell? ⟨w.heap.size + 1, 0, none⟩ = some (.int .i64 p1_0) := (cell_of_row _ _ 0 _ _ (0, 0) k1_).trans rfl
  have ck1_1 : w1.cell? ⟨w.heap.size + 1, 1, none⟩ = some (.int .i64 p1_1) := (cell_of_row _ _ 1 _ _ (0, 0) k1_).trans rfl
  have ck1_2 : w1.cell? ⟨w.heap.size + 1, 2, none⟩ = some (.slice p1_A2 p1_n2 p1_c2) := (cell_of_row _ _ 2 _ _ (0, 0) k1_).trans rfl
  have ck1_3 : w1.cell? ⟨w.heap.size + 1, 3, none⟩ = some (.slice p1_A3 p1_n3 p1_c3) := (cell_of_row _ _ 3 _ _ (0, 0) k1_).trans rfl
  have ck1_4 : w1.cell? ⟨w.heap.size + 1, 4, none⟩ = some (.slice p1_A4 p1_n4 p1_c4) := (cell_of_row _ _ 4 _ _ (0, 0) k1_).trans rfl
  go_wp2_with fail
  refine (sz1.out _ _ sb (Nat.le_refl _)).mono ?_
  rintro e w2 ⟨rfl, hb⟩
  replace sb := sb.trans (hb.mono sb.size)
  clear ck0_0 ck0_1 ck0_2 ck0_3 ck0_4 ck1_0 ck1_1 ck1_2 ck1_3 ck1_4
  replace k0_ := (hb.block _ hz0).trans k0_
  replace hz0 := Nat.lt_of_lt_of_le hz0 hb.size
  replace k1_ := (hb.block _ hz1).trans k1_
  replace hz1 := Nat.lt_of_lt_of_le hz1 hb.size
  replace h0 := h0.below hb (.inr (Nat.le_refl _))
  replace h1 := h1.below hb (.inr (Nat.le_refl _))
  replace he := he.below hb (Nat.le_refl _)
  replace bel := bel.trans (hb.mono bel.size)
  have zzw2 := hb.size
  clear hb
  have ck0_0 : w2.cell? ⟨w.heap.size, 0, none⟩ = some (.int .i64 p0_0) := (cell_of_row _ _ 0 _ _ (0, 0) k0_).trans rfl
  have ck0_1 : w2.cell? ⟨w.heap.size, 1, none⟩ = some (.int .i64 p0_1) := (cell_of_row _ _ 1 _ _ (0, 0) k0_).trans rfl
  have ck0_2 : w2.cell? ⟨w.heap.size, 2, none⟩ = some (.slice p0_A2 p0_n2 p0_c2) := (cell_of_row _ _ 2 _ _ (0, 0) k0_).trans rfl
  have ck0_3 : w2.cell? ⟨w.heap.size, 3, none⟩ = some (.slice p0_A3 p0_n3 p0_c3) := (cell_of_row _ _ 3 _ _ (0, 0) k0_).trans rfl
  have ck0_4 : w2.cell? ⟨w.heap.size, 4, none⟩ = some (.slice p0_A4 p0_n4 p0_c4) := (cell_of_row _ _ 4 _ _ (0, 0) k0_).trans rfl
  have ck1_0 : w2.cell? ⟨w.heap.size + 1, 0, none⟩ = some (.int .i64 p1_0) := (cell_of_row _ _ 0 _ _ (0, 0) k1_).trans rfl
  have ck1_1 : w2.cell? ⟨w.heap.size + 1, 1, none⟩ = some (.int .i64 p1_1) := (cell_of_row _ _ 1 _ _ (0, 0) k1_).trans rfl
  have ck1_2 : w2.cell? ⟨w.heap.size + 1, 2, none⟩ = some (.slice p1_A2 p1_n2 p1_c2) := (cell_of_row _ _ 2 _ _ (0, 0) k1_).trans rfl
  have ck1_3 : w2.cell? ⟨w.heap.size + 1, 3, none⟩ = some (.slice p1_A3 p1_n3 p1_c3) := (cell_of_row _ _ 3 _ _ (0, 0) k1_).trans rfl
  have ck1_4 : w2.cell? ⟨w.heap.size + 1, 4, none⟩ = some (.slice p1_A4 p1_n4 p1_c4) := (cell_of_row _ _ 4 _ _ (0, 0) k1_).trans rfl
  clear sb sz0 sz1
  go_wp2_with fail
  have hD : Below w2.heap.size w2 w2.drew := (Below.refl _ _).drew
  replace k0_ := hide k0_
  replace k1_ := hide k1_
  go_cut [6, 7, 8] (fun a0 a1 a2 wx => ∃ (u1 : Value) (z1 : Nat), a0 = .bool (samV d0 d1).1 ∧ a1 = u1 ∧ a2 = .int .i64 (samV d0 d1).2.2 ∧ w2.heap.size ≤ z1 ∧ ResS wx z1 wx.heap.size u1 (samV d0 d1).2.1 ∧ Below w2.heap.size w2 wx)
  case first =>
    go_region_law (first
      | (go_simp; go_at_call 22; (with_reducible refine (toMonitor_u (h0.below hD (.inr (Nat.le_refl _))) ns0).mono ?_); rintro e ys0 ⟨us0, rfl, s0, hbs0⟩; have hxs0 := hD.trans (hbs0); have zys0 := hbs0.size; have ek1_0 : ys0.cell? ⟨w.heap.size + 1, 0, none⟩ = some (.int .i64 p1_0) := (cell_of_row _ _ 0 _ _ (0, 0) ((hxs0.block _ hz1).trans k1_.out)).trans rfl; have ek1_1 : ys0.cell? ⟨w.heap.size + 1, 1, none⟩ = some (.int .i64 p1_1) := (cell_of_row _ _ 1 _ _ (0, 0) ((hxs0.block _ hz1).trans k1_.out)).trans rfl; have ek1_2 : ys0.cell? ⟨w.heap.size + 1, 2, none⟩ = some (.slice p1_A2 p1_n2 p1_c2) := (cell_of_row _ _ 2 _ _ (0, 0) ((hxs0.block _ hz1).trans k1_.out)).trans rfl; have ek1_3 : ys0.cell? ⟨w.heap.size + 1, 3, none⟩ = some (.slice p1_A3 p1_n3 p1_c3) := (cell_of_row _ _ 3 _ _ (0, 0) ((hxs0.block _ hz1).trans k1_.out)).trans rfl; have ek1_4 : ys0.cell? ⟨w.heap.size + 1, 4, none⟩ = some (.slice p1_A4 p1_n4 p1_c4) := (cell_of_row _ _ 4 _ _ (0, 0) ((hxs0.block _ hz1).trans k1_.out)).trans rfl; have qs1 := hide (toMonitor_u (h1.below hxs0 (.inr (Nat.le_refl _))) ns1))
      | (go_simp; go_at_call 22; (with_reducible refine qs1.out.mono ?_); rintro e ys1 ⟨us1, rfl, s1, hbs1⟩; have hxs1 := hxs0.trans (hbs1.mono hxs0.size); have zys1 := hbs1.size; replace s0 := s0.below hbs1 (.inr (Nat.le_refl _)); have qsF := hide (specSameVerdicts_u (w := ys1) (he.below hxs1 (Nat.le_refl _)) s0 (by omega) s1 (by omega)))
      | (go_simp; go_at_call 21; (with_reducible refine qsF.out.mono ?_); rintro e yF ⟨uw1, rfl, rw1, hbF⟩; have hxF := hxs1.trans (hbF.mono hxs1.size)))
    all_goals (go_wp2_with fail; go_meet)
    all_goals exact ⟨_, ys1.heap.size, rfl, rfl, rfl, hxs1.size, rw1, hxF⟩
  case rest =>
  obtain ⟨uw1, zzw1, rfl, rfl, rfl, hzzw1, rw1, hb⟩ := hcut
  generalize wc = w3 at *
  clear hD
  replace k0_ := k0_.out
  replace k1_ := k1_.out
  clear ck0_0 ck0_1 ck0_2 ck0_3 ck0_4 ck1_0 ck1_1 ck1_2 ck1_3 ck1_4
  replace k0_ := (hb.block _ hz0).trans k0_
  replace hz0 := Nat.lt_of_lt_of_le hz0 hb.size
  replace k1_ := (hb.block _ hz1).trans k1_
  replace hz1 := Nat.lt_of_lt_of_le hz1 hb.size
  replace h0 := h0.below hb (.inr (Nat.le_refl _))
  replace h1 := h1.below hb (.inr (Nat.le_refl _))
  replace he := he.below hb (Nat.le_refl _)
  replace bel := bel.trans (hb.mono bel.size)
  have zzw3 := hb.size
  clear hb
  have ck0_0 : w3.cell? ⟨w.heap.size, 0, none⟩ = some (.int .i64 p0_0) := (cell_of_row _ _ 0 _ _ (0, 0) k0_).trans rfl
  have ck0_1 : w3.cell? ⟨w.heap.size, 1, none⟩ = some (.int .i64 p0_1) := (cell_of_row _ _ 1 _ _ (0, 0) k0_).trans rfl
  have ck0_2 : w3.cell? ⟨w.heap.size, 2, none⟩ = some (.slice p0_A2 p0_n2 p0_c2) := (cell_of_row _ _ 2 _ _ (0, 0) k0_).trans rfl
  have ck0_3 : w3.cell? ⟨w.heap.size, 3, none⟩ = some (.slice p0_A3 p0_n3 p0_c3) := (cell_of_row _ _ 3 _ _ (0, 0) k0_).trans rfl
  have ck0_4 : w3.cell? ⟨w.heap.size, 4, none⟩ = some (.slice p0_A4 p0_n4 p0_c4) := (cell_of_row _ _ 4 _ _ (0, 0) k0_).trans rfl
  have ck1_0 : w3.cell? ⟨w.heap.size + 1, 0, none⟩ = some (.int .i64 p1_0) := (cell_of_row _ _ 0 _ _ (0, 0) k1_).trans rfl
  have ck1_1 : w3.cell? ⟨w.heap.size + 1, 1, none⟩ = some (.int .i64 p1_1) := (cell_of_row _ _ 1 _ _ (0, 0) k1_).trans rfl
  have ck1_2 : w3.cell? ⟨w.heap.size + 1, 2, none⟩ = some (.slice p1_A2 p1_n2 p1_c2) := (cell_of_row _ _ 2 _ _ (0, 0) k1_).trans rfl
  have ck1_3 : w3.cell? ⟨w.heap.size + 1, 3, none⟩ = some (.slice p1_A3 p1_n3 p1_c3) := (cell_of_row _ _ 3 _ _ (0, 0) k1_).trans rfl
  have ck1_4 : w3.cell? ⟨w.heap.size + 1, 4, none⟩ = some (.slice p1_A4 p1_n4 p1_c4) := (cell_of_row _ _ 4 _ _ (0, 0) k1_).trans rfl
  go_wp2_with fail
  refine (toMonitor_u h0 ns0).mono ?_
  rintro e w4 ⟨ux0, rfl, x0, hb⟩
  clear ck0_0 ck0_1 ck0_2 ck0_3 ck0_4 ck1_0 ck1_1 ck1_2 ck1_3 ck1_4
  replace k0_ := (hb.block _ hz0).trans k0_
  replace hz0 := Nat.lt_of_lt_of_le hz0 hb.size
  replace k1_ := (hb.block _ hz1).trans k1_
  replace hz1 := Nat.lt_of_lt_of_le hz1 hb.size
  replace h0 := h0.below hb (.inr (Nat.le_refl _))
  replace h1 := h1.below hb (.inr (Nat.le_refl _))
  replace he := he.below hb (Nat.le_refl _)
  replace rw1 := rw1.below hb (.inr (Nat.le_refl _))
  replace bel := bel.trans (hb.mono bel.size)
  have zzw4 := hb.size
  clear hb
  have ck0_0 : w4.cell? ⟨w.heap.size, 0, none⟩ = some (.int .i64 p0_0) := (cell_of_row _ _ 0 _ _ (0, 0) k0_).trans rfl
  have ck0_1 : w4.cell? ⟨w.heap.size, 1, none⟩ = some (.int .i64 p0_1) := (cell_of_row _ _ 1 _ _ (0, 0) k0_).trans rfl
  have ck0_2 : w4.cell? ⟨w.heap.size, 2, none⟩ = some (.slice p0_A2 p0_n2 p0_c2) := (cell_of_row _ _ 2 _ _ (0, 0) k0_).trans rfl
  have ck0_3 : w4.cell? ⟨w.heap.size, 3, none⟩ = some (.slice p0_A3 p0_n3 p0_c3) := (cell_of_row _ _ 3 _ _ (0, 0) k0_).trans rfl
  have ck0_4 : w4.cell? ⟨w.heap.size, 4, none⟩ = some (.slice p0_A4 p0_n4 p0_c4) := (cell_of_row _ _ 4 _ _ (0, 0) k0_).trans rfl
  have ck1_0 : w4.cell? ⟨w.heap.size + 1, 0, none⟩ = some (.int .i64 p1_0) := (cell_of_row _ _ 0 _ _ (0, 0) k1_).trans rfl
  have ck1_1 : w4.cell? ⟨w.heap.size + 1, 1, none⟩ = some (.int .i64 p1_1) := (cell_of_row _ _ 1 _ _ (0, 0) k1_).trans rfl
  have ck1_2 : w4.cell? ⟨w.heap.size + 1, 2, none⟩ = some (.slice p1_A2 p1_n2 p1_c2) := (cell_of_row _ _ 2 _ _ (0, 0) k1_).trans rfl
  have ck1_3 : w4.cell? ⟨w.heap.size + 1, 3, none⟩ = some (.slice p1_A3 p1_n3 p1_c3) := (cell_of_row _ _ 3 _ _ (0, 0) k1_).trans rfl
  have ck1_4 : w4.cell? ⟨w.heap.size + 1, 4, none⟩ = some (.slice p1_A4 p1_n4 p1_c4) := (cell_of_row _ _ 4 _ _ (0, 0) k1_).trans rfl
  obtain ⟨q0_0, q0_1, q0_A2, q0_n2, q0_c2, q0_A3, q0_n3, q0_c3, q0_A4, q0_n4, q0_c4, rfl⟩ := shape_M x0.1
  have hb : Below w4.heap.size w4 (w4.alloc (.cells #[.int .i64 q0_0, .int .i64 q0_1, .slice q0_A2 q0_n2 q0_c2, .slice q0_A3 q0_n3 q0_c3, .slice q0_A4 q0_n4 q0_c4] 52)) := (Below.refl _ _).alloc (Nat.le_refl _) _
  have kx0 := heap_alloc_new w4 (.cells #[.int .i64 q0_0, .int .i64 q0_1, .slice q0_A2 q0_n2 q0_c2, .slice q0_A3 q0_n3 q0_c3, .slice q0_A4 q0_n4 q0_c4] 52)
  have hzx0 : w4.heap.size < (w4.alloc (.cells #[.int .i64 q0_0, .int .i64 q0_1, .slice q0_A2 q0_n2 q0_c2, .slice q0_A3 q0_n3 q0_c3, .slice q0_A4 q0_n4 q0_c4] 52)).heap.size := by rw [World.size_alloc]; omega
  clear ck0_0 ck0_1 ck0_2 ck0_3 ck0_4 ck1_0 ck1_1 ck1_2 ck1_3 ck1_4
  replace k0_ := (hb.block _ hz0).trans k0_
  replace hz0 := Nat.lt_of_lt_of_le hz0 hb.size
  replace k1_ := (hb.block _ hz1).trans k1_
  replace hz1 := Nat.lt_of_lt_of_le hz1 hb.size
  replace h0 := h0.below hb (.inr (Nat.le_refl _))
  replace h1 := h1.below hb (.inr (Nat.le_refl _))
  replace he := he.below hb (Nat.le_refl _)
  replace rw1 := rw1.below hb (.inr (Nat.le_refl _))
  replace x0 := x0.below hb (.inr (Nat.le_refl _))
  replace bel := bel.trans (hb.mono bel.size)
  have zzw5 := hb.size
  clear hb
  have ck0_0 : (w4.alloc (.cells #[.int .i64 q0_0, .int .i64 q0_1, .slice q0_A2 q0_n2 q0_c2, .slice q0_A3 q0_n3 q0_c3, .slice q0_A4 q0_n4 q0_c4] 52)).cell? ⟨w.heap.size, 0, none⟩ = some (.int .i64 p0_0) := (cell_of_row _ _ 0 _ _ (0, 0) k0_).trans rfl
  have ck0_1 : (w4.alloc (.cells #[.int .i64 q0_0, .int .i64 q0_1, .slice q0_A2 q0_n2 q0_c2, .slice q0_A3 q0_n3 q0_c3, .slice q0_A4 q0_n4 q0_c4] 52)).cell? ⟨w.heap.size, 1, none⟩ = some (.int .i64 p0_1) := (cell_of_row _ _ 1 _ _ (0, 0) k0_).trans rfl
  have ck0_2 : (w4.alloc (.cells #[.int .i64 q0_0, .int .i64 q0_1, .slice q0_A2 q0_n2 q0_c2, .slice q0_A3 q0_n3 q0_c3, .slice q0_A4 q0_n4 q0_c4] 52)).cell? ⟨w.heap.size, 2, none⟩ = some (.slice p0_A2 p0_n2 p0_c2) := (cell_of_row _ _ 2 _ _ (0, 0) k0_).trans rfl
  have ck0_3 : (w4.alloc (.cells #[.int .i64 q0_0, .int .i64 q0_1, .slice q0_A2 q0_n2 q0_c2, .slice q0_A3 q0_n3 q0_c3, .slice q0_A4 q0_n4 q0_c4] 52)).cell? ⟨w.heap.size, 3, none⟩ = some (.slice p0_A3 p0_n3 p0_c3) := (cell_of_row _ _ 3 _ _ (0, 0) k0_).trans rfl
  have ck0_4 : (w4.alloc (.cells #[.int .i64 q0_0, .int .i64 q0_1, .slice q0_A2 q0_n2 q0_c2, .slice q0_A3 q0_n3 q0_c3, .slice q0_A4 q0_n4 q0_c4] 52)).cell? ⟨w.heap.size, 4, none⟩ = some (.slice p0_A4 p0_n4 p0_c4) := (cell_of_row _ _ 4 _ _ (0, 0) k0_).trans rfl
  have ck1_0 : (w4.alloc (.cells #[.int .i64 q0_0, .int .i64 q0_1, .slice q0_A2 q0_n2 q0_c2, .slice q0_A3 q0_n3 q0_c3, .slice q0_A4 q0_n4 q0_c4] 52)).cell? ⟨w.heap.size + 1, 0, none⟩ = some (.int .i64 p1_0) := (cell_of_row _ _ 0 _ _ (0, 0) k1_).trans rfl
  have ck1_1 : (w4.alloc (.cells #[.int .i64 q0_0, .int .i64 q0_1, .slice q0_A2 q0_n2 q0_c2, .slice q0_A3 q0_n3 q0_c3, .slice q0_A4 q0_n4 q0_c4] 52)).cell? ⟨w.heap.size + 1, 1, none⟩ = some (.int .i64 p1_1) := (cell_of_row _ _ 1 _ _ (0, 0) k1_).trans rfl
  have ck1_2 : (w4.alloc (.cells #[.int .i64 q0_0, .int .i64 q0_1, .slice q0_A2 q0_n2 q0_c2, .slice q0_A3 q0_n3 q0_c3, .slice q0_A4 q0_n4 q0_c4] 52)).cell? ⟨w.heap.size + 1, 2, none⟩ = some (.slice p1_A2 p1_n2 p1_c2) := (cell_of_row _ _ 2 _ _ (0, 0) k1_).trans rfl
  have ck1_3 : (w4.alloc (.cells #[.int .i64 q0_0, .int .i64 q0_1, .slice q0_A2 q0_n2 q0_c2, .slice q0_A3 q0_n3 q0_c3, .slice q0_A4 q0_n4 q0_c4] 52)).cell? ⟨w.heap.size + 1, 3, none⟩ = some (.slice p1_A3 p1_n3 p1_c3) := (cell_of_row _ _ 3 _ _ (0, 0) k1_).trans rfl
  have ck1_4 : (w4.alloc (.cells #[.int .i64 q0_0, .int .i64 q0_1, .slice q0_A2 q0_n2 q0_c2, .slice q0_A3 q0_n3 q0_c3, .slice q0_A4 q0_n4 q0_c4] 52)).cell? ⟨w.heap.size + 1, 4, none⟩ = some (.slice p1_A4 p1_n4 p1_c4) := (cell_of_row _ _ 4 _ _ (0, 0) k1_).trans rfl
  go_wp2_with fail
  generalize (w4.alloc (.cells #[.int .i64 q0_0, .int .i64 q0_1, .slice q0_A2 q0_n2 q0_c2, .slice q0_A3 q0_n3 q0_c3, .slice q0_A4 q0_n4 q0_c4] 52)) = w5 at *
  generalize w4.heap.size = bx0 at *
  clear ck0_0 ck0_1 ck0_2 ck0_3 ck0_4 ck1_0 ck1_1 ck1_2 ck1_3 ck1_4
  have ck0_0 : w5.cell? ⟨w.heap.size, 0, none⟩ = some (.int .i64 p0_0) := (cell_of_row _ _ 0 _ _ (0, 0) k0_).trans rfl
  have ck0_1 : w5.cell? ⟨w.heap.size, 1, none⟩ = some (.int .i64 p0_1) := (cell_of_row _ _ 1 _ _ (0, 0) k0_).trans rfl
  have ck0_2 : w5.cell? ⟨w.heap.size, 2, none⟩ = some (.slice p0_A2 p0_n2 p0_c2) := (cell_of_row _ _ 2 _ _ (0, 0) k0_).trans rfl
  have ck0_3 : w5.cell? ⟨w.heap.size, 3, none⟩ = some (.slice p0_A3 p0_n3 p0_c3) := (cell_of_row _ _ 3 _ _ (0, 0) k0_).trans rfl
  have ck0_4 : w5.cell? ⟨w.heap.size, 4, none⟩ = some (.slice p0_A4 p0_n4 p0_c4) := (cell_of_row _ _ 4 _ _ (0, 0) k0_).trans rfl
  have ck1_0 : w5.cell? ⟨w.heap.size + 1, 0, none⟩ = some (.int .i64 p1_0) := (cell_of_row _ _ 0 _ _ (0, 0) k1_).trans rfl
  have ck1_1 : w5.cell? ⟨w.heap.size + 1, 1, none⟩ = some (.int .i64 p1_1) := (cell_of_row _ _ 1 _ _ (0, 0) k1_).trans rfl
  have ck1_2 : w5.cell? ⟨w.heap.size + 1, 2, none⟩ = some (.slice p1_A2 p1_n2 p1_c2) := (cell_of_row _ _ 2 _ _ (0, 0) k1_).trans rfl
  have ck1_3 : w5.cell? ⟨w.heap.size + 1, 3, none⟩ = some (.slice p1_A3 p1_n3 p1_c3) := (cell_of_row _ _ 3 _ _ (0, 0) k1_).trans rfl
  have ck1_4 : w5.cell? ⟨w.heap.size + 1, 4, none⟩ = some (.slice p1_A4 p1_n4 p1_c4) := (cell_of_row _ _ 4 _ _ (0, 0) k1_).trans rfl
  have ckx00 : w5.cell? ⟨bx0, 0, none⟩ = some (.int .i64 q0_0) := (cell_of_row _ _ 0 _ _ (0, 0) kx0).trans rfl
  have ckx01 : w5.cell? ⟨bx0, 1, none⟩ = some (.int .i64 q0_1) := (cell_of_row _ _ 1 _ _ (0, 0) kx0).trans rfl
  have ckx02 : w5.cell? ⟨bx0, 2, none⟩ = some (.slice q0_A2 q0_n2 q0_c2) := (cell_of_row _ _ 2 _ _ (0, 0) kx0).trans rfl
  have ckx03 : w5.cell? ⟨bx0, 3, none⟩ = some (.slice q0_A3 q0_n3 q0_c3) := (cell_of_row _ _ 3 _ _ (0, 0) kx0).trans rfl
  have ckx04 : w5.cell? ⟨bx0, 4, none⟩ = some (.slice q0_A4 q0_n4 q0_c4) := (cell_of_row _ _ 4 _ _ (0, 0) kx0).trans rfl
  go_wp2_with fail
  refine (toMonitor_u h1 ns1).mono ?_
  rintro e w6 ⟨ux1, rfl, x1, hb⟩
  clear ck0_0 ck0_1 ck0_2 ck0_3 ck0_4 ck1_0 ck1_1 ck1_2 ck1_3 ck1_4 ckx00 ckx01 ckx02 ckx03 ckx04
  replace k0_ := (hb.block _ hz0).trans k0_
  replace hz0 := Nat.lt_of_lt_of_le hz0 hb.size
  replace k1_ := (hb.block _ hz1).trans k1_
  replace hz1 := Nat.lt_of_lt_of_le hz1 hb.size
  replace kx0 := (hb.block _ hzx0).trans kx0
  replace hzx0 := Nat.lt_of_lt_of_le hzx0 hb.size
  replace h0 := h0.below hb (.inr (Nat.le_refl _))
  replace h1 := h1.below hb (.inr (Nat.le_refl _))
  replace he := he.below hb (Nat.le_refl _)
  replace rw1 := rw1.below hb (.inr (Nat.le_refl _))
  replace x0 := x0.below hb (.inr (Nat.le_refl _))
  replace bel := bel.trans (hb.mono bel.size)
  have zzw6 := hb.size
  clear hb
  have ck0_0 : w6.cell? ⟨w.heap.size, 0, none⟩ = some (.int .i64 p0_0) := (cell_of_row _ _ 0 _ _ (0, 0) k0_).trans rfl
  have ck0_1 : w6.cell? ⟨w.heap.size, 1, none⟩ = some (.int .i64 p0_1) := (cell_of_row _ _ 1 _ _ (0, 0) k0_).trans rfl
  have ck0_2 : w6.cell? ⟨w.heap.size, 2, none⟩ = some (.slice p0_A2 p0_n2 p0_c2) := (cell_of_row _ _ 2 _ _ (0, 0) k0_).trans rfl
  have ck0_3 : w6.cell? ⟨w.heap.size, 3, none⟩ = some (.slice p0_A3 p0_n3 p0_c3) := (cell_of_row _ _ 3 _ _ (0, 0) k0_).trans rfl
  have ck0_4 : w6.cell? ⟨w.heap.size, 4, none⟩ = some (.slice p0_A4 p0_n4 p0_c4) := (cell_of_row _ _ 4 _ _ (0, 0) k0_).trans rfl
  have ck1_0 : w6.cell? ⟨w.heap.size + 1, 0, none⟩ = some (.int .i64 p1_0) := (cell_of_row _ _ 0 _ _ (0, 0) k1_).trans rfl
  have ck1_1 : w6.cell? ⟨w.heap.size + 1, 1, none⟩ = some (.int .i64 p1_1) := (cell_of_row _ _ 1 _ _ (0, 0) k1_).trans rfl
  have ck1_2 : w6.cell? ⟨w.heap.size + 1, 2, none⟩ = some (.slice p1_A2 p1_n2 p1_c2) := (cell_of_row _ _ 2 _ _ (0, 0) k1_).trans rfl
  have ck1_3 : w6.cell? ⟨w.heap.size + 1, 3, none⟩ = some (.slice p1_A3 p1_n3 p1_c3) := (cell_of_row _ _ 3 _ _ (0, 0) k1_).trans rfl
  have ck1_4 : w6.cell? ⟨w.heap.size + 1, 4, none⟩ = some (.slice p1_A4 p1_n4 p1_c4) := (cell_of_row _ _ 4 _ _ (0, 0) k1_).trans rfl
  have ckx00 : w6.cell? ⟨bx0, 0, none⟩ = some (.int .i64 q0_0) := (cell_of_row _ _ 0 _ _ (0, 0) kx0).trans rfl
  have ckx01 : w6.cell? ⟨bx0, 1, none⟩ = some (.int .i64 q0_1) := (cell_of_row _ _ 1 _ _ (0, 0) kx0).trans rfl
  have ckx02 : w6.cell? ⟨bx0, 2, none⟩ = some (.slice q0_A2 q0_n2 q0_c2) := (cell_of_row _ _ 2 _ _ (0, 0) kx0).trans rfl
  have ckx03 : w6.cell? ⟨bx0, 3, none⟩ = some (.slice q0_A3 q0_n3 q0_c3) := (cell_of_row _ _ 3 _ _ (0, 0) kx0).trans rfl
  have ckx04 : w6.cell? ⟨bx0, 4, none⟩ = some (.slice q0_A4 q0_n4 q0_c4) := (cell_of_row _ _ 4 _ _ (0, 0) kx0).trans rfl
  obtain ⟨q1_0, q1_1, q1_A2, q1_n2, q1_c2, q1_A3, q1_n3, q1_c3, q1_A4, q1_n4, q1_c4, rfl⟩ := shape_M x1.1
  have hb : Below w6.heap.size w6 (w6.alloc (.cells #[.int .i64 q1_0, .int .i64 q1_1, .slice q1_A2 q1_n2 q1_c2, .slice q1_A3 q1_n3 q1_c3, .slice q1_A4 q1_n4 q1_c4] 52)) := (Below.refl _ _).alloc (Nat.le_refl _) _
  have kx1 := heap_alloc_new w6 (.cells #[.int .i64 q1_0, .int .i64 q1_1, .slice q1_A2 q1_n2 q1_c2, .slice q1_A3 q1_n3 q1_c3, .slice q1_A4 q1_n4 q1_c4] 52)
  have hzx1 : w6.heap.size < (w6.alloc (.cells #[.int .i64 q1_0, .int .i64 q1_1, .slice q1_A2 q1_n2 q1_c2, .slice q1_A3 q1_n3 q1_c3, .slice q1_A4 q1_n4 q1_c4] 52)).heap.size := by rw [World.size_alloc]; omega
  clear ck0_0 ck0_1 ck0_2 ck0_3 ck0_4 ck1_0 ck1_1 ck1_2 ck1_3 ck1_4 ckx00 ckx01 ckx02 ckx03 ckx04
  replace k0_ := (hb.block _ hz0).trans k0_
  replace hz0 := Nat.lt_of_lt_of_le hz0 hb.size
  replace k1_ := (hb.block _ hz1).trans k1_
  replace hz1 := Nat.lt_of_lt_of_le hz1 hb.size
  replace kx0 := (hb.block _ hzx0).trans kx0
  replace hzx0 := Nat.lt_of_lt_of_le hzx0 hb.size
  replace h0 := h0.below hb (.inr (Nat.le_refl _))
  replace h1 := h1.below hb (.inr (Nat.le_refl _))
  replace he := he.below hb (Nat.le_refl _)
  replace rw1 := rw1.below hb (.inr (Nat.le_refl _))
  replace x0 := x0.below hb (.inr (Nat.le_refl _))
  replace x1 := x1.below hb (.inr (Nat.le_refl _))
  replace bel := bel.trans (hb.mono bel.size)
  have zzw7 := hb.size
  clear hb
  have ck0_0 : (w6.alloc (.cells #[.int .i64 q1_0, .int .i64 q1_1, .slice q1_A2 q1_n2 q1_c2, .slice q1_A3 q1_n3 q1_c3, .slice q1_A4 q1_n4 q1_c4] 52)).cell? ⟨w.heap.size, 0, none⟩ = some (.int .i64 p0_0) := (cell_of_row _ _ 0 _ _ (0, 0) k0_).trans rfl
  have ck0_1 : (w6.alloc (.cells #[.int .i64 q1_0, .int .i64 q1_1, .slice q1_A2 q1_n2 q1_c2, .slice q1_A3 q1_n3 q1_c3, .slice q1_A4 q1_n4 q1_c4] 52)).cell? ⟨w.heap.size, 1, none⟩ = some (.int .i64 p0_1) := (cell_of_row _ _ 1 _ _ (0, 0) k0_).trans rfl
  have ck0_2 : (w6.alloc (.cells #[.int .i64 q1_0, .int .i64 q1_1, .slice q1_A2 q1_n2 q1_c2, .slice q1_A3 q1_n3 q1_c3, .slice q1_A4 q1_n4 q1_c4] 52)).cell? ⟨w.heap.size, 2, none⟩ = some (.slice p0_A2 p0_n2 p0_c2) := (cell_of_row _ _ 2 _ _ (0, 0) k0_).trans rfl
  have ck0_3 : (w6.alloc (.cells #[.int .i64 q1_0, .int .i64 q1_1, .slice q1_A2 q1_n2 q1_c2, .slice q1_A3 q1_n3 q1_c3, .slice q1_A4 q1_n4 q1_c4] 52)).cell? ⟨w.heap.size, 3, none⟩ = some (.slice p0_A3 p0_n3 p0_c3) := (cell_of_row _ _ 3 _ _ (0, 0) k0_).trans rfl
  have ck0_4 : (w6.alloc (.cells #[.int .i64 q1_0, .int .i64 q1_1, .slice q1_A2 q1_n2 q1_c2, .slice q1_A3 q1_n3 q1_c3, .slice q1_A4 q1_n4 q1_c4] 52)).cell? ⟨w.heap.size, 4, none⟩ = some (.slice p0_A4 p0_n4 p0_c4) := (cell_of_row _ _ 4 _ _ (0, 0) k0_).trans rfl
  have ck1_0 : (w6.alloc (.cells #[.int .i64 q1_0, .int .i64 q1_1, .slice q1_A2 q1_n2 q1_c2, .slice q1_A3 q1_n3 q1_c3, .slice q1_A4 q1_n4 q1_c4] 52)).cell? ⟨w.heap.size + 1, 0, none⟩ = some (.int .i64 p1_0) := (cell_of_row _ _ 0 _ _ (0, 0) k1_).trans rfl
  have ck1_1 : (w6.alloc (.cells #[.int .i64 q1_0, .int .i64 q1_1, .slice q1_A2 q1_n2 q1_c2, .slice q1_A3 q1_n3 q1_c3, .slice q1_A4 q1_n4 q1_c4] 52)).cell? ⟨w.heap.size + 1, 1, none⟩ = some (.int .i64 p1_1) := (cell_of_row _ _ 1 _ _ (0, 0) k1_).trans rfl
  have ck1_2 : (w6.alloc (.cells #[.int .i64 q1_0, .int .i64 q1_1, .slice q1_A2 q1_n2 q1_c2, .slice q1_A3 q1_n3 q1_c3, .slice q1_A4 q1_n4 q1_c4] 52)).cell? ⟨w.heap.size + 1, 2, none⟩ = some (.slice p1_A2 p1_n2 p1_c2) := (cell_of_row _ _ 2 _ _ (0, 0) k1_).trans rfl
  have ck1_3 : (w6.alloc (.cells #[.int .i64 q1_0, .int .i64 q1_1, .slice q1_A2 q1_n2 q1_c2, .slice q1_A3 q1_n3 q1_c3, .slice q1_A4 q1_n4 q1_c4] 52)).cell? ⟨w.heap.size + 1, 3, none⟩ = some (.slice p1_A3 p1_n3 p1_c3) := (cell_of_row _ _ 3 _ _ (0, 0) k1_).trans rfl
  have ck1_4 : (w6.alloc (.cells #[.int .i64 q1_0, .int .i64 q1_1, .slice q1_A2 q1_n2 q1_c2, .slice q1_A3 q1_n3 q1_c3, .slice q1_A4 q1_n4 q1_c4] 52)).cell? ⟨w.heap.size + 1, 4, none⟩ = some (.slice p1_A4 p1_n4 p1_c4) := (cell_of_row _ _ 4 _ _ (0, 0) k1_).trans rfl
  have ckx00 : (w6.alloc (.cells #[.int .i64 q1_0, .int .i64 q1_1, .slice q1_A2 q1_n2 q1_c2, .slice q1_A3 q1_n3 q1_c3, .slice q1_A4 q1_n4 q1_c4] 52)).cell? ⟨bx0, 0, none⟩ = some (.int .i64 q0_0) := (cell_of_row _ _ 0 _ _ (0, 0) kx0).trans rfl
  have ckx01 : (w6.alloc (.cells #[.int .i64 q1_0, .int .i64 q1_1, .slice q1_A2 q1_n2 q1_c2, .slice q1_A3 q1_n3 q1_c3, .slice q1_A4 q1_n4 q1_c4] 52)).cell? ⟨bx0, 1, none⟩ = some (.int .i64 q0_1) := (cell_of_row _ _ 1 _ _ (0, 0) kx0).trans rfl
  have ckx02 : (w6.alloc (.cells #[.int .i64 q1_0, .int .i64 q1_1, .slice q1_A2 q1_n2 q1_c2, .slice q1_A3 q1_n3 q1_c3, .slice q1_A4 q1_n4 q1_c4] 52)).cell? ⟨bx0, 2, none⟩ = some (.slice q0_A2 q0_n2 q0_c2) := (cell_of_row _ _ 2 _ _ (0, 0) kx0).trans rfl
  have ckx03 : (w6.alloc (.cells #[.int .i64 q1_0, .int .i64 q1_1, .slice q1_A2 q1_n2 q1_c2, .slice q1_A3 q1_n3 q1_c3, .slice q1_A4 q1_n4 q1_c4] 52)).cell? ⟨bx0, 3, none⟩ = some (.slice q0_A3 q0_n3 q0_c3) := (cell_of_row _ _ 3 _ _ (0, 0) kx0).trans rfl
  have ckx04 : (w6.alloc (.cells #[.int .i64 q1_0, .int .i64 q1_1, .slice q1_A2 q1_n2 q1_c2, .slice q1_A3 q1_n3 q1_c3, .slice q1_A4 q1_n4 q1_c4] 52)).cell? ⟨bx0, 4, none⟩ = some (.slice q0_A4 q0_n4 q0_c4) := (cell_of_row _ _ 4 _ _ (0, 0) kx0).trans rfl
  go_wp2_with fail
  generalize (w6.alloc (.cells #[.int .i64 q1_0, .int .i64 q1_1, .slice q1_A2 q1_n2 q1_c2, .slice q1_A3 q1_n3 q1_c3, .slice q1_A4 q1_n4 q1_c4] 52)) = w7 at *
  generalize w6.heap.size = bx1 at *
  clear ck0_0 ck0_1 ck0_2 ck0_3 ck0_4 ck1_0 ck1_1 ck1_2 ck1_3 ck1_4 ckx00 ckx01 ckx02 ckx03 ckx04
  have ck0_0 : w7.cell? ⟨w.heap.size, 0, none⟩ = some (.int .i64 p0_0) := (cell_of_row _ _ 0 _ _ (0, 0) k0_).trans rfl
  have ck0_1 : w7.cell? ⟨w.heap.size, 1, none⟩ = some (.int .i64 p0_1) := (cell_of_row _ _ 1 _ _ (0, 0) k0_).trans rfl
  have ck0_2 : w7.cell? ⟨w.heap.size, 2, none⟩ = some (.slice p0_A2 p0_n2 p0_c2) := (cell_of_row _ _ 2 _ _ (0, 0) k0_).trans rfl
  have ck0_3 : w7.cell? ⟨w.heap.size, 3, none⟩ = some (.slice p0_A3 p0_n3 p0_c3) := (cell_of_row _ _ 3 _ _ (0, 0) k0_).trans rfl
  have ck0_4 : w7.cell? ⟨w.heap.size, 4, none⟩ = some (.slice p0_A4 p0_n4 p0_c4) := (cell_of_row _ _ 4 _ _ (0, 0) k0_).trans rfl
  have ck1_0 : w7.cell? ⟨w.heap.size + 1, 0, none⟩ = some (.int .i64 p1_0) := (cell_of_row _ _ 0 _ _ (0, 0) k1_).trans rfl
  have ck1_1 : w7.cell? ⟨w.heap.size + 1, 1, none⟩ = some (.int .i64 p1_1) := (cell_of_row _ _ 1 _ _ (0, 0) k1_).trans rfl
  have ck1_2 : w7.cell? ⟨w.heap.size + 1, 2, none⟩ = some (.slice p1_A2 p1_n2 p1_c2) := (cell_of_row _ _ 2 _ _ (0, 0) k1_).trans rfl
  have ck1_3 : w7.cell? ⟨w.heap.size + 1, 3, none⟩ = some (.slice p1_A3 p1_n3 p1_c3) := (cell_of_row _ _ 3 _ _ (0, 0) k1_).trans rfl
  have ck1_4 : w7.cell? ⟨w.heap.size + 1, 4, none⟩ = some (.slice p1_A4 p1_n4 p1_c4) := (cell_of_row _ _ 4 _ _ (0, 0) k1_).trans rfl
  have ckx00 : w7.cell? ⟨bx0, 0, none⟩ = some (.int .i64 q0_0) := (cell_of_row _ _ 0 _ _ (0, 0) kx0).trans rfl
  have ckx01 : w7.cell? ⟨bx0, 1, none⟩ = some (.int .i64 q0_1) := (cell_of_row _ _ 1 _ _ (0, 0) kx0).trans rfl
  have ckx02 : w7.cell? ⟨bx0, 2, none⟩ = some (.slice q0_A2 q0_n2 q0_c2) := (cell_of_row _ _ 2 _ _ (0, 0) kx0).trans rfl
  have ckx03 : w7.cell? ⟨bx0, 3, none⟩ = some (.slice q0_A3 q0_n3 q0_c3) := (cell_of_row _ _ 3 _ _ (0, 0) kx0).trans rfl
  have ckx04 : w7.cell? ⟨bx0, 4, none⟩ = some (.slice q0_A4 q0_n4 q0_c4) := (cell_of_row _ _ 4 _ _ (0, 0) kx0).trans rfl
  have ckx10 : w7.cell? ⟨bx1, 0, none⟩ = some (.int .i64 q1_0) := (cell_of_row _ _ 0 _ _ (0, 0) kx1).trans rfl
  have ckx11 : w7.cell? ⟨bx1, 1, none⟩ = some (.int .i64 q1_1) := (cell_of_row _ _ 1 _ _ (0, 0) kx1).trans rfl
  have ckx12 : w7.cell? ⟨bx1, 2, none⟩ = some (.slice q1_A2 q1_n2 q1_c2) := (cell_of_row _ _ 2 _ _ (0, 0) kx1).trans rfl
  have ckx13 : w7.cell? ⟨bx1, 3, none⟩ = some (.slice q1_A3 q1_n3 q1_c3) := (cell_of_row _ _ 3 _ _ (0, 0) kx1).trans rfl
  have ckx14 : w7.cell? ⟨bx1, 4, none⟩ = some (.slice q1_A4 q1_n4 q1_c4) := (cell_of_row _ _ 4 _ _ (0, 0) kx1).trans rfl
  go_wp2_with fail
  refine (implSameVerdicts_u (w := w7) he x0 (by omega) x1 (by omega)).mono ?_
  rintro e w8 ⟨ug1, rfl, rg1, hb⟩
  clear ck0_0 ck0_1 ck0_2 ck0_3 ck0_4 ck1_0 ck1_1 ck1_2 ck1_3 ck1_4 ckx00 ckx01 ckx02 ckx03 ckx04 ckx10 ckx11 ckx12 ckx13 ckx14
  replace k0_ := (hb.block _ hz0).trans k0_
  replace hz0 := Nat.lt_of_lt_of_le hz0 hb.size
  replace k1_ := (hb.block _ hz1).trans k1_
  replace hz1 := Nat.lt_of_lt_of_le hz1 hb.size
  replace kx0 := (hb.block _ hzx0).trans kx0
  replace hzx0 := Nat.lt_of_lt_of_le hzx0 hb.size
  replace kx1 := (hb.block _ hzx1).trans kx1
  replace hzx1 := Nat.lt_of_lt_of_le hzx1 hb.size
  replace h0 := h0.below hb (.inr (Nat.le_refl _))
  replace h1 := h1.below hb (.inr (Nat.le_refl _))
  replace he := he.below hb (Nat.le_refl _)
  replace rw1 := rw1.below hb (.inr (Nat.le_refl _))
  replace x0 := x0.below hb (.inr (Nat.le_refl _))
  replace x1 := x1.below hb (.inr (Nat.le_refl _))
  replace bel := bel.trans (hb.mono bel.size)
  have zzw8 := hb.size
  clear hb
  have ck0_0 : w8.cell? ⟨w.heap.size, 0, none⟩ = some (.int .i64 p0_0) := (cell_of_row _ _ 0 _ _ (0, 0) k0_).trans rfl
  have ck0_1 : w8.cell? ⟨w.heap.size, 1, none⟩ = some (.int .i64 p0_1) := (cell_of_row _ _ 1 _ _ (0, 0) k0_).trans rfl
  have ck0_2 : w8.cell? ⟨w.heap.size, 2, none⟩ = some (.slice p0_A2 p0_n2 p0_c2) := (cell_of_row _ _ 2 _ _ (0, 0) k0_).trans rfl
  have ck0_3 : w8.cell? ⟨w.heap.size, 3, none⟩ = some (.slice p0_A3 p0_n3 p0_c3) := (cell_of_row _ _ 3 _ _ (0, 0) k0_).trans rfl
  have ck0_4 : w8.cell? ⟨w.heap.size, 4, none⟩ = some (.slice p0_A4 p0_n4 p0_c4) := (cell_of_row _ _ 4 _ _ (0, 0) k0_).trans rfl
  have ck1_0 : w8.cell? ⟨w.heap.size + 1, 0, none⟩ = some (.int .i64 p1_0) := (cell_of_row _ _ 0 _ _ (0, 0) k1_).trans rfl
  have ck1_1 : w8.cell? ⟨w.heap.size + 1, 1, none⟩ = some (.int .i64 p1_1) := (cell_of_row _ _ 1 _ _ (0, 0) k1_).trans rfl
  have ck1_2 : w8.cell? ⟨w.heap.size + 1, 2, none⟩ = some (.slice p1_A2 p1_n2 p1_c2) := (cell_of_row _ _ 2 _ _ (0, 0) k1_).trans rfl
  have ck1_3 : w8.cell? ⟨w.heap.size + 1, 3, none⟩ = some (.slice p1_A3 p1_n3 p1_c3) := (cell_of_row _ _ 3 _ _ (0, 0) k1_).trans rfl
  have ck1_4 : w8.cell? ⟨w.heap.size + 1, 4, none⟩ = some (.slice p1_A4 p1_n4 p1_c4) := (cell_of_row _ _ 4 _ _ (0, 0) k1_).trans rfl
  have ckx00 : w8.cell? ⟨bx0, 0, none⟩ = some (.int .i64 q0_0) := (cell_of_row _ _ 0 _ _ (0, 0) kx0).trans rfl
  have ckx01 : w8.cell? ⟨bx0, 1, none⟩ = some (.int .i64 q0_1) := (cell_of_row _ _ 1 _ _ (0, 0) kx0).trans rfl
  have ckx02 : w8.cell? ⟨bx0, 2, none⟩ = some (.slice q0_A2 q0_n2 q0_c2) := (cell_of_row _ _ 2 _ _ (0, 0) kx0).trans rfl
  have ckx03 : w8.cell? ⟨bx0, 3, none⟩ = some (.slice q0_A3 q0_n3 q0_c3) := (cell_of_row _ _ 3 _ _ (0, 0) kx0).trans rfl
  have ckx04 : w8.cell? ⟨bx0, 4, none⟩ = some (.slice q0_A4 q0_n4 q0_c4) := (cell_of_row _ _ 4 _ _ (0, 0) kx0).trans rfl
  have ckx10 : w8.cell? ⟨bx1, 0, none⟩ = some (.int .i64 q1_0) := (cell_of_row _ _ 0 _ _ (0, 0) kx1).trans rfl
  have ckx11 : w8.cell? ⟨bx1, 1, none⟩ = some (.int .i64 q1_1) := (cell_of_row _ _ 1 _ _ (0, 0) kx1).trans rfl
  have ckx12 : w8.cell? ⟨bx1, 2, none⟩ = some (.slice q1_A2 q1_n2 q1_c2) := (cell_of_row _ _ 2 _ _ (0, 0) kx1).trans rfl
  have ckx13 : w8.cell? ⟨bx1, 3, none⟩ = some (.slice q1_A3 q1_n3 q1_c3) := (cell_of_row _ _ 3 _ _ (0, 0) kx1).trans rfl
  have ckx14 : w8.cell? ⟨bx1, 4, none⟩ = some (.slice q1_A4 q1_n4 q1_c4) := (cell_of_row _ _ 4 _ _ (0, 0) kx1).trans rfl
  go_wp2_with fail
  refine (eqStringS_u rg1 rw1).mono ?_
  rintro e w9 ⟨rfl, hb⟩
  clear ck0_0 ck0_1 ck0_2 ck0_3 ck0_4 ck1_0 ck1_1 ck1_2 ck1_3 ck1_4 ckx00 ckx01 ckx02 ckx03 ckx04 ckx10 ckx11 ckx12 ckx13 ckx14
  replace k0_ := (hb.block _ hz0).trans k0_
  replace hz0 := Nat.lt_of_lt_of_le hz0 hb.size
  replace k1_ := (hb.block _ hz1).trans k1_
  replace hz1 := Nat.lt_of_lt_of_le hz1 hb.size
  replace kx0 := (hb.block _ hzx0).trans kx0
  replace hzx0 := Nat.lt_of_lt_of_le hzx0 hb.size
  replace kx1 := (hb.block _ hzx1).trans kx1
  replace hzx1 := Nat.lt_of_lt_of_le hzx1 hb.size
  replace h0 := h0.below hb (.inr (Nat.le_refl _))
  replace h1 := h1.below hb (.inr (Nat.le_refl _))
  replace he := he.below hb (Nat.le_refl _)
  replace rw1 := rw1.below hb (.inr (Nat.le_refl _))
  replace x0 := x0.below hb (.inr (Nat.le_refl _))
  replace x1 := x1.below hb (.inr (Nat.le_refl _))
  replace rg1 := rg1.below hb (.inr (Nat.le_refl _))
  replace bel := bel.trans (hb.mono bel.size)
  have zzw9 := hb.size
  clear hb
  have ck0_0 : w9.cell? ⟨w.heap.size, 0, none⟩ = some (.int .i64 p0_0) := (cell_of_row _ _ 0 _ _ (0, 0) k0_).trans rfl
  have ck0_1 : w9.cell? ⟨w.heap.size, 1, none⟩ = some (.int .i64 p0_1) := (cell_of_row _ _ 1 _ _ (0, 0) k0_).trans rfl
  have ck0_2 : w9.cell? ⟨w.heap.size, 2, none⟩ = some (.slice p0_A2 p0_n2 p0_c2) := (cell_of_row _ _ 2 _ _ (0, 0) k0_).trans rfl
  have ck0_3 : w9.cell? ⟨w.heap.size, 3, none⟩ = some (.slice p0_A3 p0_n3 p0_c3) := (cell_of_row _ _ 3 _ _ (0, 0) k0_).trans rfl
  have ck0_4 : w9.cell? ⟨w.heap.size, 4, none⟩ = some (.slice p0_A4 p0_n4 p0_c4) := (cell_of_row _ _ 4 _ _ (0, 0) k0_).trans rfl
  have ck1_0 : w9.cell? ⟨w.heap.size + 1, 0, none⟩ = some (.int .i64 p1_0) := (cell_of_row _ _ 0 _ _ (0, 0) k1_).trans rfl
  have ck1_1 : w9.cell? ⟨w.heap.size + 1, 1, none⟩ = some (.int .i64 p1_1) := (cell_of_row _ _ 1 _ _ (0, 0) k1_).trans rfl
  have ck1_2 : w9.cell? ⟨w.heap.size + 1, 2, none⟩ = some (.slice p1_A2 p1_n2 p1_c2) := (cell_of_row _ _ 2 _ _ (0, 0) k1_).trans rfl
  have ck1_3 : w9.cell? ⟨w.heap.size + 1, 3, none⟩ = some (.slice p1_A3 p1_n3 p1_c3) := (cell_of_row _ _ 3 _ _ (0, 0) k1_).trans rfl
  have ck1_4 : w9.cell? ⟨w.heap.size + 1, 4, none⟩ = some (.slice p1_A4 p1_n4 p1_c4) := (cell_of_row _ _ 4 _ _ (0, 0) k1_).trans rfl
  have ckx00 : w9.cell? ⟨bx0, 0, none⟩ = some (.int .i64 q0_0) := (cell_of_row _ _ 0 _ _ (0, 0) kx0).trans rfl
  have ckx01 : w9.cell? ⟨bx0, 1, none⟩ = some (.int .i64 q0_1) := (cell_of_row _ _ 1 _ _ (0, 0) kx0).trans rfl
  have ckx02 : w9.cell? ⟨bx0, 2, none⟩ = some (.slice q0_A2 q0_n2 q0_c2) := (cell_of_row _ _ 2 _ _ (0, 0) kx0).trans rfl
  have ckx03 : w9.cell? ⟨bx0, 3, none⟩ = some (.slice q0_A3 q0_n3 q0_c3) := (cell_of_row _ _ 3 _ _ (0, 0) kx0).trans rfl
  have ckx04 : w9.cell? ⟨bx0, 4, none⟩ = some (.slice q0_A4 q0_n4 q0_c4) := (cell_of_row _ _ 4 _ _ (0, 0) kx0).trans rfl
  have ckx10 : w9.cell? ⟨bx1, 0, none⟩ = some (.int .i64 q1_0) := (cell_of_row _ _ 0 _ _ (0, 0) kx1).trans rfl
  have ckx11 : w9.cell? ⟨bx1, 1, none⟩ = some (.int .i64 q1_1) := (cell_of_row _ _ 1 _ _ (0, 0) kx1).trans rfl
  have ckx12 : w9.cell? ⟨bx1, 2, none⟩ = some (.slice q1_A2 q1_n2 q1_c2) := (cell_of_row _ _ 2 _ _ (0, 0) kx1).trans rfl
  have ckx13 : w9.cell? ⟨bx1, 3, none⟩ = some (.slice q1_A3 q1_n3 q1_c3) := (cell_of_row _ _ 3 _ _ (0, 0) kx1).trans rfl
  have ckx14 : w9.cell? ⟨bx1, 4, none⟩ = some (.slice q1_A4 q1_n4 q1_c4) := (cell_of_row _ _ 4 _ _ (0, 0) kx1).trans rfl
  go_wp2_with fail
  have hD : Below w9.heap.size w9 w9.drew := (Below.refl _ _).drew
  replace k0_ := hide k0_
  replace k1_ := hide k1_
  replace kx0 := hide kx0
  replace kx1 := hide kx1
  go_cut [68] (fun v wx => v = .bool false ∧ Below w9.heap.size w9 wx)
  case first =>
    go_region_law (first
      | (go_simp; go_at_call 22; (with_reducible refine (toMonitor_u (h0.below hD (.inr (Nat.le_refl _))) ns0).mono ?_); rintro e w10 ⟨ut0, rfl, t0, hb7⟩; have ek0_0 : w10.cell? ⟨w.heap.size, 0, none⟩ = some (.int .i64 p0_0) := (cell_of_row _ _ 0 _ _ (0, 0) ((hb7.block _ hz0).trans k0_.out)).trans rfl; have ek0_1 : w10.cell? ⟨w.heap.size, 1, none⟩ = some (.int .i64 p0_1) := (cell_of_row _ _ 1 _ _ (0, 0) ((hb7.block _ hz0).trans k0_.out)).trans rfl; have ek0_2 : w10.cell? ⟨w.heap.size, 2, none⟩ = some (.slice p0_A2 p0_n2 p0_c2) := (cell_of_row _ _ 2 _ _ (0, 0) ((hb7.block _ hz0).trans k0_.out)).trans rfl; have ek0_3 : w10.cell? ⟨w.heap.size, 3, none⟩ = some (.slice p0_A3 p0_n3 p0_c3) := (cell_of_row _ _ 3 _ _ (0, 0) ((hb7.block _ hz0).trans k0_.out)).trans rfl; have ek0_4 : w10.cell? ⟨w.heap.size, 4, none⟩ = some (.slice p0_A4 p0_n4 p0_c4) := (cell_of_row _ _ 4 _ _ (0, 0) ((hb7.block _ hz0).trans k0_.out)).trans rfl; have ekx00 : w10.cell? ⟨bx0, 0, none⟩ = some (.int .i64 q0_0) := (cell_of_row _ _ 0 _ _ (0, 0) ((hb7.block _ hzx0).trans kx0.out)).trans rfl; have ekx01 : w10.cell? ⟨bx0, 1, none⟩ = some (.int .i64 q0_1) := (cell_of_row _ _ 1 _ _ (0, 0) ((hb7.block _ hzx0).trans kx0.out)).trans rfl; have ekx02 : w10.cell? ⟨bx0, 2, none⟩ = some (.slice q0_A2 q0_n2 q0_c2) := (cell_of_row _ _ 2 _ _ (0, 0) ((hb7.block _ hzx0).trans kx0.out)).trans rfl; have ekx03 : w10.cell? ⟨bx0, 3, none⟩ = some (.slice q0_A3 q0_n3 q0_c3) := (cell_of_row _ _ 3 _ _ (0, 0) ((hb7.block _ hzx0).trans kx0.out)).trans rfl; have ekx04 : w10.cell? ⟨bx0, 4, none⟩ = some (.slice q0_A4 q0_n4 q0_c4) := (cell_of_row _ _ 4 _ _ (0, 0) ((hb7.block _ hzx0).trans kx0.out)).trans rfl; have qeq := eqMonitor_u (x0.below (hD.trans hb7) (.inr (Nat.le_refl _))) t0; rw [decide_eq_true rfl] at qeq; replace qeq := hide qeq)
      | (go_simp; go_at_call 25; (with_reducible refine qeq.out.mono ?_); rintro e w11 ⟨rfl, hb8⟩))
    all_goals (go_wp2_with fail; go_meet)
    all_goals exact ⟨rfl, hD.trans (hb7.trans (hb8.mono hb7.size))⟩
  case rest =>
  obtain ⟨rfl, hb⟩ := hcut
  generalize wc = w11 at *
  clear hD
  replace k0_ := k0_.out
  replace k1_ := k1_.out
  replace kx0 := kx0.out
  replace kx1 := kx1.out
  clear ck0_0 ck0_1 ck0_2 ck0_3 ck0_4 ck1_0 ck1_1 ck1_2 ck1_3 ck1_4 ckx00 ckx01 ckx02 ckx03 ckx04 ckx10 ckx11 ckx12 ckx13 ckx14
  replace k0_ := (hb.block _ hz0).trans k0_
  replace hz0 := Nat.lt_of_lt_of_le hz0 hb.size
  replace k1_ := (hb.block _ hz1).trans k1_
  replace hz1 := Nat.lt_of_lt_of_le hz1 hb.size
  replace kx0 := (hb.block _ hzx0).trans kx0
  replace hzx0 := Nat.lt_of_lt_of_le hzx0 hb.size
  replace kx1 := (hb.block _ hzx1).trans kx1
  replace hzx1 := Nat.lt_of_lt_of_le hzx1 hb.size
  replace h0 := h0.below hb (.inr (Nat.le_refl _))
  replace h1 := h1.below hb (.inr (Nat.le_refl _))
  replace he := he.below hb (Nat.le_refl _)
  replace rw1 := rw1.below hb (.inr (Nat.le_refl _))
  replace x0 := x0.below hb (.inr (Nat.le_refl _))
  replace x1 := x1.below hb (.inr (Nat.le_refl _))
  replace rg1 := rg1.below hb (.inr (Nat.le_refl _))
  replace bel := bel.trans (hb.mono bel.size)
  have zzw11 := hb.size
  clear hb
  have ck0_0 : w11.cell? ⟨w.heap.size, 0, none⟩ = some (.int .i64 p0_0) := (cell_of_row _ _ 0 _ _ (0, 0) k0_).trans rfl
  have ck0_1 : w11.cell? ⟨w.heap.size, 1, none⟩ = some (.int .i64 p0_1) := (cell_of_row _ _ 1 _ _ (0, 0) k0_).trans rfl
  have ck0_2 : w11.cell? ⟨w.heap.size, 2, none⟩ = some (.slice p0_A2 p0_n2 p0_c2) := (cell_of_row _ _ 2 _ _ (0, 0) k0_).trans rfl
  have ck0_3 : w11.cell? ⟨w.heap.size, 3, none⟩ = some (.slice p0_A3 p0_n3 p0_c3) := (cell_of_row _ _ 3 _ _ (0, 0) k0_).trans rfl
  have ck0_4 : w11.cell? ⟨w.heap.size, 4, none⟩ = some (.slice p0_A4 p0_n4 p0_c4) := (cell_of_row _ _ 4 _ _ (0, 0) k0_).trans rfl
  have ck1_0 : w11.cell? ⟨w.heap.size + 1, 0, none⟩ = some (.int .i64 p1_0) := (cell_of_row _ _ 0 _ _ (0, 0) k1_).trans rfl
  have ck1_1 : w11.cell? ⟨w.heap.size + 1, 1, none⟩ = some (.int .i64 p1_1) := (cell_of_row _ _ 1 _ _ (0, 0) k1_).trans rfl
  have ck1_2 : w11.cell? ⟨w.heap.size + 1, 2, none⟩ = some (.slice p1_A2 p1_n2 p1_c2) := (cell_of_row _ _ 2 _ _ (0, 0) k1_).trans rfl
  have ck1_3 : w11.cell? ⟨w.heap.size + 1, 3, none⟩ = some (.slice p1_A3 p1_n3 p1_c3) := (cell_of_row _ _ 3 _ _ (0, 0) k1_).trans rfl
  have ck1_4 : w11.cell? ⟨w.heap.size + 1, 4, none⟩ = some (.slice p1_A4 p1_n4 p1_c4) := (cell_of_row _ _ 4 _ _ (0, 0) k1_).trans rfl
  have ckx00 : w11.cell? ⟨bx0, 0, none⟩ = some (.int .i64 q0_0) := (cell_of_row _ _ 0 _ _ (0, 0) kx0).trans rfl
  have ckx01 : w11.cell? ⟨bx0, 1, none⟩ = some (.int .i64 q0_1) := (cell_of_row _ _ 1 _ _ (0, 0) kx0).trans rfl
  have ckx02 : w11.cell? ⟨bx0, 2, none⟩ = some (.slice q0_A2 q0_n2 q0_c2) := (cell_of_row _ _ 2 _ _ (0, 0) kx0).trans rfl
  have ckx03 : w11.cell? ⟨bx0, 3, none⟩ = some (.slice q0_A3 q0_n3 q0_c3) := (cell_of_row _ _ 3 _ _ (0, 0) kx0).trans rfl
  have ckx04 : w11.cell? ⟨bx0, 4, none⟩ = some (.slice q0_A4 q0_n4 q0_c4) := (cell_of_row _ _ 4 _ _ (0, 0) kx0).trans rfl
  have ckx10 : w11.cell? ⟨bx1, 0, none⟩ = some (.int .i64 q1_0) := (cell_of_row _ _ 0 _ _ (0, 0) kx1).trans rfl
  have ckx11 : w11.cell? ⟨bx1, 1, none⟩ = some (.int .i64 q1_1) := (cell_of_row _ _ 1 _ _ (0, 0) kx1).trans rfl
  have ckx12 : w11.cell? ⟨bx1, 2, none⟩ = some (.slice q1_A2 q1_n2 q1_c2) := (cell_of_row _ _ 2 _ _ (0, 0) kx1).trans rfl
  have ckx13 : w11.cell? ⟨bx1, 3, none⟩ = some (.slice q1_A3 q1_n3 q1_c3) := (cell_of_row _ _ 3 _ _ (0, 0) kx1).trans rfl
  have ckx14 : w11.cell? ⟨bx1, 4, none⟩ = some (.slice q1_A4 q1_n4 q1_c4) := (cell_of_row _ _ 4 _ _ (0, 0) kx1).trans rfl
  go_wp2_with fail
  have hD : Below w11.heap.size w11 w11.drew := (Below.refl _ _).drew
  replace k0_ := hide k0_
  replace k1_ := hide k1_
  replace kx0 := hide kx0
  replace kx1 := hide kx1
  go_cut [73] (fun v wx => v = .bool false ∧ Below w11.heap.size w11 wx)
  case first =>
    go_region_law (first
      | (go_simp; go_at_call 22; (with_reducible refine (toMonitor_u (h1.below hD (.inr (Nat.le_refl _))) ns1).mono ?_); rintro e w12 ⟨ut1, rfl, t1, hb7⟩; have ek1_0 : w12.cell? ⟨w.heap.size + 1, 0, none⟩ = some (.int .i64 p1_0) := (cell_of_row _ _ 0 _ _ (0, 0) ((hb7.block _ hz1).trans k1_.out)).trans rfl; have ek1_1 : w12.cell? ⟨w.heap.size + 1, 1, none⟩ = some (.int .i64 p1_1) := (cell_of_row _ _ 1 _ _ (0, 0) ((hb7.block _ hz1).trans k1_.out)).trans rfl; have ek1_2 : w12.cell? ⟨w.heap.size + 1, 2, none⟩ = some (.slice p1_A2 p1_n2 p1_c2) := (cell_of_row _ _ 2 _ _ (0, 0) ((hb7.block _ hz1).trans k1_.out)).trans rfl; have ek1_3 : w12.cell? ⟨w.heap.size + 1, 3, none⟩ = some (.slice p1_A3 p1_n3 p1_c3) := (cell_of_row _ _ 3 _ _ (0, 0) ((hb7.block _ hz1).trans k1_.out)).trans rfl; have ek1_4 : w12.cell? ⟨w.heap.size + 1, 4, none⟩ = some (.slice p1_A4 p1_n4 p1_c4) := (cell_of_row _ _ 4 _ _ (0, 0) ((hb7.block _ hz1).trans k1_.out)).trans rfl; have ekx10 : w12.cell? ⟨bx1, 0, none⟩ = some (.int .i64 q1_0) := (cell_of_row _ _ 0 _ _ (0, 0) ((hb7.block _ hzx1).trans kx1.out)).trans rfl; have ekx11 : w12.cell? ⟨bx1, 1, none⟩ = some (.int .i64 q1_1) := (cell_of_row _ _ 1 _ _ (0, 0) ((hb7.block _ hzx1).trans kx1.out)).trans rfl; have ekx12 : w12.cell? ⟨bx1, 2, none⟩ = some (.slice q1_A2 q1_n2 q1_c2) := (cell_of_row _ _ 2 _ _ (0, 0) ((hb7.block _ hzx1).trans kx1.out)).trans rfl; have ekx13 : w12.cell? ⟨bx1, 3, none⟩ = some (.slice q1_A3 q1_n3 q1_c3) := (cell_of_row _ _ 3 _ _ (0, 0) ((hb7.block _ hzx1).trans kx1.out)).trans rfl; have ekx14 : w12.cell? ⟨bx1, 4, none⟩ = some (.slice q1_A4 q1_n4 q1_c4) := (cell_of_row _ _ 4 _ _ (0, 0) ((hb7.block _ hzx1).trans kx1.out)).trans rfl; have qeq := eqMonitor_u (x1.below (hD.trans hb7) (.inr (Nat.le_refl _))) t1; rw [decide_eq_true rfl] at qeq; replace qeq := hide qeq)
      | (go_simp; go_at_call 25; (with_reducible refine qeq.out.mono ?_); rintro e w13 ⟨rfl, hb8⟩))
    all_goals (go_wp2_with fail; go_meet)
    all_goals exact ⟨rfl, hD.trans (hb7.trans (hb8.mono hb7.size))⟩
  case rest =>
  obtain ⟨rfl, hb⟩ := hcut
  generalize wc = w13 at *
  clear hD
  replace k0_ := k0_.out
  replace k1_ := k1_.out
  replace kx0 := kx0.out
  replace kx1 := kx1.out
  clear ck0_0 ck0_1 ck0_2 ck0_3 ck0_4 ck1_0 ck1_1 ck1_2 ck1_3 ck1_4 ckx00 ckx01 ckx02 ckx03 ckx04 ckx10 ckx11 ckx12 ckx13 ckx14
  replace k0_ := (hb.block _ hz0).trans k0_
  replace hz0 := Nat.lt_of_lt_of_le hz0 hb.size
  replace k1_ := (hb.block _ hz1).trans k1_
  replace hz1 := Nat.lt_of_lt_of_le hz1 hb.size
  replace kx0 := (hb.block _ hzx0).trans kx0
  replace hzx0 := Nat.lt_of_lt_of_le hzx0 hb.size
  replace kx1 := (hb.block _ hzx1).trans kx1
  replace hzx1 := Nat.lt_of_lt_of_le hzx1 hb.size
  replace h0 := h0.below hb (.inr (Nat.le_refl _))
  replace h1 := h1.below hb (.inr (Nat.le_refl _))
  replace he := he.below hb (Nat.le_refl _)
  replace rw1 := rw1.below hb (.inr (Nat.le_refl _))
  replace x0 := x0.below hb (.inr (Nat.le_refl _))
  replace x1 := x1.below hb (.inr (Nat.le_refl _))
  replace rg1 := rg1.below hb (.inr (Nat.le_refl _))
  replace bel := bel.trans (hb.mono bel.size)
  have zzw13 := hb.size
  clear hb
  have ck0_0 : w13.cell? ⟨w.heap.size, 0, none⟩ = some (.int .i64 p0_0) := (cell_of_row _ _ 0 _ _ (0, 0) k0_).trans rfl
  have ck0_1 : w13.cell? ⟨w.heap.size, 1, none⟩ = some (.int .i64 p0_1) := (cell_of_row _ _ 1 _ _ (0, 0) k0_).trans rfl
  have ck0_2 : w13.cell? ⟨w.heap.size, 2, none⟩ = some (.slice p0_A2 p0_n2 p0_c2) := (cell_of_row _ _ 2 _ _ (0, 0) k0_).trans rfl
  have ck0_3 : w13.cell? ⟨w.heap.size, 3, none⟩ = some (.slice p0_A3 p0_n3 p0_c3) := (cell_of_row _ _ 3 _ _ (0, 0) k0_).trans rfl
  have ck0_4 : w13.cell? ⟨w.heap.size, 4, none⟩ = some (.slice p0_A4 p0_n4 p0_c4) := (cell_of_row _ _ 4 _ _ (0, 0) k0_).trans rfl
  have ck1_0 : w13.cell? ⟨w.heap.size + 1, 0, none⟩ = some (.int .i64 p1_0) := (cell_of_row _ _ 0 _ _ (0, 0) k1_).trans rfl
  have ck1_1 : w13.cell? ⟨w.heap.size + 1, 1, none⟩ = some (.int .i64 p1_1) := (cell_of_row _ _ 1 _ _ (0, 0) k1_).trans rfl
  have ck1_2 : w13.cell? ⟨w.heap.size + 1, 2, none⟩ = some (.slice p1_A2 p1_n2 p1_c2) := (cell_of_row _ _ 2 _ _ (0, 0) k1_).trans rfl
  have ck1_3 : w13.cell? ⟨w.heap.size + 1, 3, none⟩ = some (.slice p1_A3 p1_n3 p1_c3) := (cell_of_row _ _ 3 _ _ (0, 0) k1_).trans rfl
  have ck1_4 : w13.cell? ⟨w.heap.size + 1, 4, none⟩ = some (.slice p1_A4 p1_n4 p1_c4) := (cell_of_row _ _ 4 _ _ (0, 0) k1_).trans rfl
  have ckx00 : w13.cell? ⟨bx0, 0, none⟩ = some (.int .i64 q0_0) := (cell_of_row _ _ 0 _ _ (0, 0) kx0).trans rfl
  have ckx01 : w13.cell? ⟨bx0, 1, none⟩ = some (.int .i64 q0_1) := (cell_of_row _ _ 1 _ _ (0, 0) kx0).trans rfl
  have ckx02 : w13.cell? ⟨bx0, 2, none⟩ = some (.slice q0_A2 q0_n2 q0_c2) := (cell_of_row _ _ 2 _ _ (0, 0) kx0).trans rfl
  have ckx03 : w13.cell? ⟨bx0, 3, none⟩ = some (.slice q0_A3 q0_n3 q0_c3) := (cell_of_row _ _ 3 _ _ (0, 0) kx0).trans rfl
  have ckx04 : w13.cell? ⟨bx0, 4, none⟩ = some (.slice q0_A4 q0_n4 q0_c4) := (cell_of_row _ _ 4 _ _ (0, 0) kx0).trans rfl
  have ckx10 : w13.cell? ⟨bx1, 0, none⟩ = some (.int .i64 q1_0) := (cell_of_row _ _ 0 _ _ (0, 0) kx1).trans rfl
  have ckx11 : w13.cell? ⟨bx1, 1, none⟩ = some (.int .i64 q1_1) := (cell_of_row _ _ 1 _ _ (0, 0) kx1).trans rfl
  have ckx12 : w13.cell? ⟨bx1, 2, none⟩ = some (.slice q1_A2 q1_n2 q1_c2) := (cell_of_row _ _ 2 _ _ (0, 0) kx1).trans rfl
  have ckx13 : w13.cell? ⟨bx1, 3, none⟩ = some (.slice q1_A3 q1_n3 q1_c3) := (cell_of_row _ _ 3 _ _ (0, 0) kx1).trans rfl
  have ckx14 : w13.cell? ⟨bx1, 4, none⟩ = some (.slice q1_A4 q1_n4 q1_c4) := (cell_of_row _ _ 4 _ _ (0, 0) kx1).trans rfl
  go_wp2_with fail
  refine (markMonitor_u (m := 1) x0 (by omega) (by omega) (by omega)).mono ?_
  rintro e w14 ⟨k50, rfl, ka0, kb0, ho⟩
  clear ck0_0 ck0_1 ck0_2 ck0_3 ck0_4 ck1_0 ck1_1 ck1_2 ck1_3 ck1_4 ckx00 ckx01 ckx02 ckx03 ckx04 ckx10 ckx11 ckx12 ckx13 ckx14
  have zzw14 := ho.size
  replace k0_ := (ho.block _ hz0 (by omega)).trans k0_
  replace hz0 := Nat.lt_of_lt_of_le hz0 (ho.size)
  replace k1_ := (ho.block _ hz1 (by omega)).trans k1_
  replace hz1 := Nat.lt_of_lt_of_le hz1 (ho.size)
  replace kx1 := (ho.block _ hzx1 (by omega)).trans kx1
  replace hzx1 := Nat.lt_of_lt_of_le hzx1 (ho.size)
  replace bel := Only.below bel ho (by omega) bel.size
  replace h0 := h0.only ho (by omega)
  replace h1 := h1.only ho (by omega)
  replace he := he0.below bel (Nat.le_refl _)
  replace rw1 := rw1.only ho (by omega)
  replace x1 := x1.only ho (by omega)
  replace rg1 := rg1.only ho (by omega)
  clear ho
  have ck0_0 : w14.cell? ⟨w.heap.size, 0, none⟩ = some (.int .i64 p0_0) := (cell_of_row _ _ 0 _ _ (0, 0) k0_).trans rfl
  have ck0_1 : w14.cell? ⟨w.heap.size, 1, none⟩ = some (.int .i64 p0_1) := (cell_of_row _ _ 1 _ _ (0, 0) k0_).trans rfl
  have ck0_2 : w14.cell? ⟨w.heap.size, 2, none⟩ = some (.slice p0_A2 p0_n2 p0_c2) := (cell_of_row _ _ 2 _ _ (0, 0) k0_).trans rfl
  have ck0_3 : w14.cell? ⟨w.heap.size, 3, none⟩ = some (.slice p0_A3 p0_n3 p0_c3) := (cell_of_row _ _ 3 _ _ (0, 0) k0_).trans rfl
  have ck0_4 : w14.cell? ⟨w.heap.size, 4, none⟩ = some (.slice p0_A4 p0_n4 p0_c4) := (cell_of_row _ _ 4 _ _ (0, 0) k0_).trans rfl
  have ck1_0 : w14.cell? ⟨w.heap.size + 1, 0, none⟩ = some (.int .i64 p1_0) := (cell_of_row _ _ 0 _ _ (0, 0) k1_).trans rfl
  have ck1_1 : w14.cell? ⟨w.heap.size + 1, 1, none⟩ = some (.int .i64 p1_1) := (cell_of_row _ _ 1 _ _ (0, 0) k1_).trans rfl
  have ck1_2 : w14.cell? ⟨w.heap.size + 1, 2, none⟩ = some (.slice p1_A2 p1_n2 p1_c2) := (cell_of_row _ _ 2 _ _ (0, 0) k1_).trans rfl
  have ck1_3 : w14.cell? ⟨w.heap.size + 1, 3, none⟩ = some (.slice p1_A3 p1_n3 p1_c3) := (cell_of_row _ _ 3 _ _ (0, 0) k1_).trans rfl
  have ck1_4 : w14.cell? ⟨w.heap.size + 1, 4, none⟩ = some (.slice p1_A4 p1_n4 p1_c4) := (cell_of_row _ _ 4 _ _ (0, 0) k1_).trans rfl
  have ckx10 : w14.cell? ⟨bx1, 0, none⟩ = some (.int .i64 q1_0) := (cell_of_row _ _ 0 _ _ (0, 0) kx1).trans rfl
  have ckx11 : w14.cell? ⟨bx1, 1, none⟩ = some (.int .i64 q1_1) := (cell_of_row _ _ 1 _ _ (0, 0) kx1).trans rfl
  have ckx12 : w14.cell? ⟨bx1, 2, none⟩ = some (.slice q1_A2 q1_n2 q1_c2) := (cell_of_row _ _ 2 _ _ (0, 0) kx1).trans rfl
  have ckx13 : w14.cell? ⟨bx1, 3, none⟩ = some (.slice q1_A3 q1_n3 q1_c3) := (cell_of_row _ _ 3 _ _ (0, 0) kx1).trans rfl
  have ckx14 : w14.cell? ⟨bx1, 4, none⟩ = some (.slice q1_A4 q1_n4 q1_c4) := (cell_of_row _ _ 4 _ _ (0, 0) kx1).trans rfl
  go_wp2_with fail
  refine (markMonitor_u (m := k50) x1 (by omega) (by omega) (by omega)).mono ?_
  rintro e w15 ⟨k51, rfl, ka1, kb1, ho⟩
  clear ck0_0 ck0_1 ck0_2 ck0_3 ck0_4 ck1_0 ck1_1 ck1_2 ck1_3 ck1_4 ckx10 ckx11 ckx12 ckx13 ckx14
  have zzw15 := ho.size
  replace k0_ := (ho.block _ hz0 (by omega)).trans k0_
  replace hz0 := Nat.lt_of_lt_of_le hz0 (ho.size)
  replace k1_ := (ho.block _ hz1 (by omega)).trans k1_
  replace hz1 := Nat.lt_of_lt_of_le hz1 (ho.size)
  replace bel := Only.below bel ho (by omega) bel.size
  replace h0 := h0.only ho (by omega)
  replace h1 := h1.only ho (by omega)
  replace he := he0.below bel (Nat.le_refl _)
  replace rw1 := rw1.only ho (by omega)
  replace rg1 := rg1.only ho (by omega)
  clear ho
  have ck0_0 : w15.cell? ⟨w.heap.size, 0, none⟩ = some (.int .i64 p0_0) := (cell_of_row _ _ 0 _ _ (0, 0) k0_).trans rfl
  have ck0_1 : w15.cell? ⟨w.heap.size, 1, none⟩ = some (.int .i64 p0_1) := (cell_of_row _ _ 1 _ _ (0, 0) k0_).trans rfl
  have ck0_2 : w15.cell? ⟨w.heap.size, 2, none⟩ = some (.slice p0_A2 p0_n2 p0_c2) := (cell_of_row _ _ 2 _ _ (0, 0) k0_).trans rfl
  have ck0_3 : w15.cell? ⟨w.heap.size, 3, none⟩ = some (.slice p0_A3 p0_n3 p0_c3) := (cell_of_row _ _ 3 _ _ (0, 0) k0_).trans rfl
  have ck0_4 : w15.cell? ⟨w.heap.size, 4, none⟩ = some (.slice p0_A4 p0_n4 p0_c4) := (cell_of_row _ _ 4 _ _ (0, 0) k0_).trans rfl
  have ck1_0 : w15.cell? ⟨w.heap.size + 1, 0, none⟩ = some (.int .i64 p1_0) := (cell_of_row _ _ 0 _ _ (0, 0) k1_).trans rfl
  have ck1_1 : w15.cell? ⟨w.heap.size + 1, 1, none⟩ = some (.int .i64 p1_1) := (cell_of_row _ _ 1 _ _ (0, 0) k1_).trans rfl
  have ck1_2 : w15.cell? ⟨w.heap.size + 1, 2, none⟩ = some (.slice p1_A2 p1_n2 p1_c2) := (cell_of_row _ _ 2 _ _ (0, 0) k1_).trans rfl
  have ck1_3 : w15.cell? ⟨w.heap.size + 1, 3, none⟩ = some (.slice p1_A3 p1_n3 p1_c3) := (cell_of_row _ _ 3 _ _ (0, 0) k1_).trans rfl
  have ck1_4 : w15.cell? ⟨w.heap.size + 1, 4, none⟩ = some (.slice p1_A4 p1_n4 p1_c4) := (cell_of_row _ _ 4 _ _ (0, 0) k1_).trans rfl
  go_wp2_with fail
  refine (eqStringS_u rg1 rw1).mono ?_
  rintro e w16 ⟨rfl, hb⟩
  clear ck0_0 ck0_1 ck0_2 ck0_3 ck0_4 ck1_0 ck1_1 ck1_2 ck1_3 ck1_4
  replace k0_ := (hb.block _ hz0).trans k0_
  replace hz0 := Nat.lt_of_lt_of_le hz0 hb.size
  replace k1_ := (hb.block _ hz1).trans k1_
  replace hz1 := Nat.lt_of_lt_of_le hz1 hb.size
  replace h0 := h0.below hb (.inr (Nat.le_refl _))
  replace h1 := h1.below hb (.inr (Nat.le_refl _))
  replace he := he.below hb (Nat.le_refl _)
  replace rw1 := rw1.below hb (.inr (Nat.le_refl _))
  replace rg1 := rg1.below hb (.inr (Nat.le_refl _))
  replace bel := bel.trans (hb.mono bel.size)
  have zzw16 := hb.size
  clear hb
  have ck0_0 : w16.cell? ⟨w.heap.size, 0, none⟩ = some (.int .i64 p0_0) := (cell_of_row _ _ 0 _ _ (0, 0) k0_).trans rfl
  have ck0_1 : w16.cell? ⟨w.heap.size, 1, none⟩ = some (.int .i64 p0_1) := (cell_of_row _ _ 1 _ _ (0, 0) k0_).trans rfl
  have ck0_2 : w16.cell? ⟨w.heap.size, 2, none⟩ = some (.slice p0_A2 p0_n2 p0_c2) := (cell_of_row _ _ 2 _ _ (0, 0) k0_).trans rfl
  have ck0_3 : w16.cell? ⟨w.heap.size, 3, none⟩ = some (.slice p0_A3 p0_n3 p0_c3) := (cell_of_row _ _ 3 _ _ (0, 0) k0_).trans rfl
  have ck0_4 : w16.cell? ⟨w.heap.size, 4, none⟩ = some (.slice p0_A4 p0_n4 p0_c4) := (cell_of_row _ _ 4 _ _ (0, 0) k0_).trans rfl
  have ck1_0 : w16.cell? ⟨w.heap.size + 1, 0, none⟩ = some (.int .i64 p1_0) := (cell_of_row _ _ 0 _ _ (0, 0) k1_).trans rfl
  have ck1_1 : w16.cell? ⟨w.heap.size + 1, 1, none⟩ = some (.int .i64 p1_1) := (cell_of_row _ _ 1 _ _ (0, 0) k1_).trans rfl
  have ck1_2 : w16.cell? ⟨w.heap.size + 1, 2, none⟩ = some (.slice p1_A2 p1_n2 p1_c2) := (cell_of_row _ _ 2 _ _ (0, 0) k1_).trans rfl
  have ck1_3 : w16.cell? ⟨w.heap.size + 1, 3, none⟩ = some (.slice p1_A3 p1_n3 p1_c3) := (cell_of_row _ _ 3 _ _ (0, 0) k1_).trans rfl
  have ck1_4 : w16.cell? ⟨w.heap.size + 1, 4, none⟩ = some (.slice p1_A4 p1_n4 p1_c4) := (cell_of_row _ _ 4 _ _ (0, 0) k1_).trans rfl
  go_wp2_with fail
  refine (markStringS_u (m := 1) rg1 (by omega) (by omega)).mono ?_
  rintro e w17 ⟨m1, dm1, rfl, ma1, mb1, ho, rgm1, hm1⟩
  clear ck0_0 ck0_1 ck0_2 ck0_3 ck0_4 ck1_0 ck1_1 ck1_2 ck1_3 ck1_4
  have zzw17 := ho.size
  replace k0_ := (ho.block _ hz0 (by omega)).trans k0_
  replace hz0 := Nat.lt_of_lt_of_le hz0 (ho.size)
  replace k1_ := (ho.block _ hz1 (by omega)).trans k1_
  replace hz1 := Nat.lt_of_lt_of_le hz1 (ho.size)
  replace bel := Only.below bel ho (by omega) bel.size
  replace h0 := h0.only ho (by omega)
  replace h1 := h1.only ho (by omega)
  replace he := he0.below bel (Nat.le_refl _)
  replace rw1 := rw1.only ho (by omega)
  clear ho
  have ck0_0 : w17.cell? ⟨w.heap.size, 0, none⟩ = some (.int .i64 p0_0) := (cell_of_row _ _ 0 _ _ (0, 0) k0_).trans rfl
  have ck0_1 : w17.cell? ⟨w.heap.size, 1, none⟩ = some (.int .i64 p0_1) := (cell_of_row _ _ 1 _ _ (0, 0) k0_).trans rfl
  have ck0_2 : w17.cell? ⟨w.heap.size, 2, none⟩ = some (.slice p0_A2 p0_n2 p0_c2) := (cell_of_row _ _ 2 _ _ (0, 0) k0_).trans rfl
  have ck0_3 : w17.cell? ⟨w.heap.size, 3, none⟩ = some (.slice p0_A3 p0_n3 p0_c3) := (cell_of_row _ _ 3 _ _ (0, 0) k0_).trans rfl
  have ck0_4 : w17.cell? ⟨w.heap.size, 4, none⟩ = some (.slice p0_A4 p0_n4 p0_c4) := (cell_of_row _ _ 4 _ _ (0, 0) k0_).trans rfl
  have ck1_0 : w17.cell? ⟨w.heap.size + 1, 0, none⟩ = some (.int .i64 p1_0) := (cell_of_row _ _ 0 _ _ (0, 0) k1_).trans rfl
  have ck1_1 : w17.cell? ⟨w.heap.size + 1, 1, none⟩ = some (.int .i64 p1_1) := (cell_of_row _ _ 1 _ _ (0, 0) k1_).trans rfl
  have ck1_2 : w17.cell? ⟨w.heap.size + 1, 2, none⟩ = some (.slice p1_A2 p1_n2 p1_c2) := (cell_of_row _ _ 2 _ _ (0, 0) k1_).trans rfl
  have ck1_3 : w17.cell? ⟨w.heap.size + 1, 3, none⟩ = some (.slice p1_A3 p1_n3 p1_c3) := (cell_of_row _ _ 3 _ _ (0, 0) k1_).trans rfl
  have ck1_4 : w17.cell? ⟨w.heap.size + 1, 4, none⟩ = some (.slice p1_A4 p1_n4 p1_c4) := (cell_of_row _ _ 4 _ _ (0, 0) k1_).trans rfl
  go_wp2_with fail
  refine (heldStringS_u rgm1 hm1).mono ?_
  rintro e w18 ⟨rfl, hb⟩
  clear ck0_0 ck0_1 ck0_2 ck0_3 ck0_4 ck1_0 ck1_1 ck1_2 ck1_3 ck1_4
  replace k0_ := (hb.block _ hz0).trans k0_
  replace hz0 := Nat.lt_of_lt_of_le hz0 hb.size
  replace k1_ := (hb.block _ hz1).trans k1_
  replace hz1 := Nat.lt_of_lt_of_le hz1 hb.size
  replace h0 := h0.below hb (.inr (Nat.le_refl _))
  replace h1 := h1.below hb (.inr (Nat.le_refl _))
  replace he := he.below hb (Nat.le_refl _)
  replace rw1 := rw1.below hb (.inr (Nat.le_refl _))
  replace rgm1 := rgm1.below hb (.inr (Nat.le_refl _))
  replace bel := bel.trans (hb.mono bel.size)
  have zzw18 := hb.size
  clear hb
  have ck0_0 : w18.cell? ⟨w.heap.size, 0, none⟩ = some (.int .i64 p0_0) := (cell_of_row _ _ 0 _ _ (0, 0) k0_).trans rfl
  have ck0_1 : w18.cell? ⟨w.heap.size, 1, none⟩ = some (.int .i64 p0_1) := (cell_of_row _ _ 1 _ _ (0, 0) k0_).trans rfl
  have ck0_2 : w18.cell? ⟨w.heap.size, 2, none⟩ = some (.slice p0_A2 p0_n2 p0_c2) := (cell_of_row _ _ 2 _ _ (0, 0) k0_).trans rfl
  have ck0_3 : w18.cell? ⟨w.heap.size, 3, none⟩ = some (.slice p0_A3 p0_n3 p0_c3) := (cell_of_row _ _ 3 _ _ (0, 0) k0_).trans rfl
  have ck0_4 : w18.cell? ⟨w.heap.size, 4, none⟩ = some (.slice p0_A4 p0_n4 p0_c4) := (cell_of_row _ _ 4 _ _ (0, 0) k0_).trans rfl
  have ck1_0 : w18.cell? ⟨w.heap.size + 1, 0, none⟩ = some (.int .i64 p1_0) := (cell_of_row _ _ 0 _ _ (0, 0) k1_).trans rfl
  have ck1_1 : w18.cell? ⟨w.heap.size + 1, 1, none⟩ = some (.int .i64 p1_1) := (cell_of_row _ _ 1 _ _ (0, 0) k1_).trans rfl
  have ck1_2 : w18.cell? ⟨w.heap.size + 1, 2, none⟩ = some (.slice p1_A2 p1_n2 p1_c2) := (cell_of_row _ _ 2 _ _ (0, 0) k1_).trans rfl
  have ck1_3 : w18.cell? ⟨w.heap.size + 1, 3, none⟩ = some (.slice p1_A3 p1_n3 p1_c3) := (cell_of_row _ _ 3 _ _ (0, 0) k1_).trans rfl
  have ck1_4 : w18.cell? ⟨w.heap.size + 1, 4, none⟩ = some (.slice p1_A4 p1_n4 p1_c4) := (cell_of_row _ _ 4 _ _ (0, 0) k1_).trans rfl
  go_wp2_with fail
  have hD : Below w18.heap.size w18 w18.drew := (Below.refl _ _).drew
  replace k0_ := hide k0_
  replace k1_ := hide k1_
  go_cut [17, 18, 19] (fun a0 a1 a2 wx => ∃ (u1 : Value) (z1 : Nat), a0 = .bool (samV d0 d1).1 ∧ a1 = u1 ∧ a2 = .int .i64 (samV d0 d1).2.2 ∧ w18.heap.size ≤ z1 ∧ ResS wx z1 wx.heap.size u1 (samV d0 d1).2.1 ∧ Below w18.heap.size w18 wx)
  case first =>
    go_region_law (first
      | (go_simp; go_at_call 22; (with_reducible refine (toMonitor_u (h0.below hD (.inr (Nat.le_refl _))) ns0).mono ?_); rintro e yi0 ⟨uy0, rfl, y0, hbi0⟩; have hxi0 := hD.trans (hbi0); have zyi0 := hbi0.size; have ek1_0 : yi0.cell? ⟨w.heap.size + 1, 0, none⟩ = some (.int .i64 p1_0) := (cell_of_row _ _ 0 _ _ (0, 0) ((hxi0.block _ hz1).trans k1_.out)).trans rfl; have ek1_1 : yi0.cell? ⟨w.heap.size + 1, 1, none⟩ = some (.int .i64 p1_1) := (cell_of_row _ _ 1 _ _ (0, 0) ((hxi0.block _ hz1).trans k1_.out)).trans rfl; have ek1_2 : yi0.cell? ⟨w.heap.size + 1, 2, none⟩ = some (.slice p1_A2 p1_n2 p1_c2) := (cell_of_row _ _ 2 _ _ (0, 0) ((hxi0.block _ hz1).trans k1_.out)).trans rfl; have ek1_3 : yi0.cell? ⟨w.heap.size + 1, 3, none⟩ = some (.slice p1_A3 p1_n3 p1_c3) := (cell_of_row _ _ 3 _ _ (0, 0) ((hxi0.block _ hz1).trans k1_.out)).trans rfl; have ek1_4 : yi0.cell? ⟨w.heap.size + 1, 4, none⟩ = some (.slice p1_A4 p1_n4 p1_c4) := (cell_of_row _ _ 4 _ _ (0, 0) ((hxi0.block _ hz1).trans k1_.out)).trans rfl; have qi1 := hide (toMonitor_u (h1.below hxi0 (.inr (Nat.le_refl _))) ns1))
      | (go_simp; go_at_call 22; (with_reducible refine qi1.out.mono ?_); rintro e yi1 ⟨uy1, rfl, y1, hbi1⟩; have hxi1 := hxi0.trans (hbi1.mono hxi0.size); have zyi1 := hbi1.size; replace y0 := y0.below hbi1 (.inr (Nat.le_refl _)); have qiF := hide (implSameVerdicts_u (w := yi1) (he.below hxi1 (Nat.le_refl _)) y0 (by omega) y1 (by omega)))
      | (go_simp; go_at_call 23; (with_reducible refine qiF.out.mono ?_); rintro e yF ⟨uh1, rfl, rh1, hbF⟩; have hxF := hxi1.trans (hbF.mono hxi1.size)))
    all_goals (go_wp2_with fail; go_meet)
    all_goals exact ⟨_, yi1.heap.size, rfl, rfl, rfl, hxi1.size, rh1, hxF⟩
  case rest =>
  obtain ⟨uh1, zzh1, rfl, rfl, rfl, hzzh1, rh1, hb⟩ := hcut
  generalize wc = w19 at *
  clear hD
  replace k0_ := k0_.out
  replace k1_ := k1_.out
  clear ck0_0 ck0_1 ck0_2 ck0_3 ck0_4 ck1_0 ck1_1 ck1_2 ck1_3 ck1_4
  replace k0_ := (hb.block _ hz0).trans k0_
  replace hz0 := Nat.lt_of_lt_of_le hz0 hb.size
  replace k1_ := (hb.block _ hz1).trans k1_
  replace hz1 := Nat.lt_of_lt_of_le hz1 hb.size
  replace h0 := h0.below hb (.inr (Nat.le_refl _))
  replace h1 := h1.below hb (.inr (Nat.le_refl _))
  replace he := he.below hb (Nat.le_refl _)
  replace rw1 := rw1.below hb (.inr (Nat.le_refl _))
  replace rgm1 := rgm1.below hb (.inr (Nat.le_refl _))
  replace bel := bel.trans (hb.mono bel.size)
  have zzw19 := hb.size
  clear hb
  have ck0_0 : w19.cell? ⟨w.heap.size, 0, none⟩ = some (.int .i64 p0_0) := (cell_of_row _ _ 0 _ _ (0, 0) k0_).trans rfl
  have ck0_1 : w19.cell? ⟨w.heap.size, 1, none⟩ = some (.int .i64 p0_1) := (cell_of_row _ _ 1 _ _ (0, 0) k0_).trans rfl
  have ck0_2 : w19.cell? ⟨w.heap.size, 2, none⟩ = some (.slice p0_A2 p0_n2 p0_c2) := (cell_of_row _ _ 2 _ _ (0, 0) k0_).trans rfl
  have ck0_3 : w19.cell? ⟨w.heap.size, 3, none⟩ = some (.slice p0_A3 p0_n3 p0_c3) := (cell_of_row _ _ 3 _ _ (0, 0) k0_).trans rfl
  have ck0_4 : w19.cell? ⟨w.heap.size, 4, none⟩ = some (.slice p0_A4 p0_n4 p0_c4) := (cell_of_row _ _ 4 _ _ (0, 0) k0_).trans rfl
  have ck1_0 : w19.cell? ⟨w.heap.size + 1, 0, none⟩ = some (.int .i64 p1_0) := (cell_of_row _ _ 0 _ _ (0, 0) k1_).trans rfl
  have ck1_1 : w19.cell? ⟨w.heap.size + 1, 1, none⟩ = some (.int .i64 p1_1) := (cell_of_row _ _ 1 _ _ (0, 0) k1_).trans rfl
  have ck1_2 : w19.cell? ⟨w.heap.size + 1, 2, none⟩ = some (.slice p1_A2 p1_n2 p1_c2) := (cell_of_row _ _ 2 _ _ (0, 0) k1_).trans rfl
  have ck1_3 : w19.cell? ⟨w.heap.size + 1, 3, none⟩ = some (.slice p1_A3 p1_n3 p1_c3) := (cell_of_row _ _ 3 _ _ (0, 0) k1_).trans rfl
  have ck1_4 : w19.cell? ⟨w.heap.size + 1, 4, none⟩ = some (.slice p1_A4 p1_n4 p1_c4) := (cell_of_row _ _ 4 _ _ (0, 0) k1_).trans rfl
  go_wp2_with fail
  refine (eqStringS_u rh1 rw1).mono ?_
  rintro e w20 ⟨rfl, hb⟩
  clear ck0_0 ck0_1 ck0_2 ck0_3 ck0_4 ck1_0 ck1_1 ck1_2 ck1_3 ck1_4
  replace k0_ := (hb.block _ hz0).trans k0_
  replace hz0 := Nat.lt_of_lt_of_le hz0 hb.size
  replace k1_ := (hb.block _ hz1).trans k1_
  replace hz1 := Nat.lt_of_lt_of_le hz1 hb.size
  replace h0 := h0.below hb (.inr (Nat.le_refl _))
  replace h1 := h1.below hb (.inr (Nat.le_refl _))
  replace he := he.below hb (Nat.le_refl _)
  replace rw1 := rw1.below hb (.inr (Nat.le_refl _))
  replace rgm1 := rgm1.below hb (.inr (Nat.le_refl _))
  replace rh1 := rh1.below hb (.inr (Nat.le_refl _))
  replace bel := bel.trans (hb.mono bel.size)
  have zzw20 := hb.size
  clear hb
  have ck0_0 : w20.cell? ⟨w.heap.size, 0, none⟩ = some (.int .i64 p0_0) := (cell_of_row _ _ 0 _ _ (0, 0) k0_).trans rfl
  have ck0_1 : w20.cell? ⟨w.heap.size, 1, none⟩ = some (.int .i64 p0_1) := (cell_of_row _ _ 1 _ _ (0, 0) k0_).trans rfl
  have ck0_2 : w20.cell? ⟨w.heap.size, 2, none⟩ = some (.slice p0_A2 p0_n2 p0_c2) := (cell_of_row _ _ 2 _ _ (0, 0) k0_).trans rfl
  have ck0_3 : w20.cell? ⟨w.heap.size, 3, none⟩ = some (.slice p0_A3 p0_n3 p0_c3) := (cell_of_row _ _ 3 _ _ (0, 0) k0_).trans rfl
  have ck0_4 : w20.cell? ⟨w.heap.size, 4, none⟩ = some (.slice p0_A4 p0_n4 p0_c4) := (cell_of_row _ _ 4 _ _ (0, 0) k0_).trans rfl
  have ck1_0 : w20.cell? ⟨w.heap.size + 1, 0, none⟩ = some (.int .i64 p1_0) := (cell_of_row _ _ 0 _ _ (0, 0) k1_).trans rfl
  have ck1_1 : w20.cell? ⟨w.heap.size + 1, 1, none⟩ = some (.int .i64 p1_1) := (cell_of_row _ _ 1 _ _ (0, 0) k1_).trans rfl
  have ck1_2 : w20.cell? ⟨w.heap.size + 1, 2, none⟩ = some (.slice p1_A2 p1_n2 p1_c2) := (cell_of_row _ _ 2 _ _ (0, 0) k1_).trans rfl
  have ck1_3 : w20.cell? ⟨w.heap.size + 1, 3, none⟩ = some (.slice p1_A3 p1_n3 p1_c3) := (cell_of_row _ _ 3 _ _ (0, 0) k1_).trans rfl
  have ck1_4 : w20.cell? ⟨w.heap.size + 1, 4, none⟩ = some (.slice p1_A4 p1_n4 p1_c4) := (cell_of_row _ _ 4 _ _ (0, 0) k1_).trans rfl
  go_wp2_with fail
  refine (heldStringS_u rgm1 hm1).mono ?_
  rintro e w21 ⟨rfl, hb⟩
  clear ck0_0 ck0_1 ck0_2 ck0_3 ck0_4 ck1_0 ck1_1 ck1_2 ck1_3 ck1_4
  replace k0_ := (hb.block _ hz0).trans k0_
  replace hz0 := Nat.lt_of_lt_of_le hz0 hb.size
  replace k1_ := (hb.block _ hz1).trans k1_
  replace hz1 := Nat.lt_of_lt_of_le hz1 hb.size
  replace h0 := h0.below hb (.inr (Nat.le_refl _))
  replace h1 := h1.below hb (.inr (Nat.le_refl _))
  replace he := he.below hb (Nat.le_refl _)
  replace rw1 := rw1.below hb (.inr (Nat.le_refl _))
  replace rgm1 := rgm1.below hb (.inr (Nat.le_refl _))
  replace rh1 := rh1.below hb (.inr (Nat.le_refl _))
  replace bel := bel.trans (hb.mono bel.size)
  have zzw21 := hb.size
  clear hb
  have ck0_0 : w21.cell? ⟨w.heap.size, 0, none⟩ = some (.int .i64 p0_0) := (cell_of_row _ _ 0 _ _ (0, 0) k0_).trans rfl
  have ck0_1 : w21.cell? ⟨w.heap.size, 1, none⟩ = some (.int .i64 p0_1) := (cell_of_row _ _ 1 _ _ (0, 0) k0_).trans rfl
  have ck0_2 : w21.cell? ⟨w.heap.size, 2, none⟩ = some (.slice p0_A2 p0_n2 p0_c2) := (cell_of_row _ _ 2 _ _ (0, 0) k0_).trans rfl
  have ck0_3 : w21.cell? ⟨w.heap.size, 3, none⟩ = some (.slice p0_A3 p0_n3 p0_c3) := (cell_of_row _ _ 3 _ _ (0, 0) k0_).trans rfl
  have ck0_4 : w21.cell? ⟨w.heap.size, 4, none⟩ = some (.slice p0_A4 p0_n4 p0_c4) := (cell_of_row _ _ 4 _ _ (0, 0) k0_).trans rfl
  have ck1_0 : w21.cell? ⟨w.heap.size + 1, 0, none⟩ = some (.int .i64 p1_0) := (cell_of_row _ _ 0 _ _ (0, 0) k1_).trans rfl
  have ck1_1 : w21.cell? ⟨w.heap.size + 1, 1, none⟩ = some (.int .i64 p1_1) := (cell_of_row _ _ 1 _ _ (0, 0) k1_).trans rfl
  have ck1_2 : w21.cell? ⟨w.heap.size + 1, 2, none⟩ = some (.slice p1_A2 p1_n2 p1_c2) := (cell_of_row _ _ 2 _ _ (0, 0) k1_).trans rfl
  have ck1_3 : w21.cell? ⟨w.heap.size + 1, 3, none⟩ = some (.slice p1_A3 p1_n3 p1_c3) := (cell_of_row _ _ 3 _ _ (0, 0) k1_).trans rfl
  have ck1_4 : w21.cell? ⟨w.heap.size + 1, 4, none⟩ = some (.slice p1_A4 p1_n4 p1_c4) := (cell_of_row _ _ 4 _ _ (0, 0) k1_).trans rfl
  go_wp2_with fail
  go_ret
  exact ⟨rfl, bel⟩

set_option maxRecDepth 100000 in
theorem lifted (os : Os) (started : os.Started) (H : Type) (enc : TypeId × Value → H) :
    ReturnsInHanded {} Tryz.checked os 4 .any (fun w args => (Rows.fnExactSameVerdictsSpec.pre enc Tryz.prog Tryz.f4 Rows.fnExactSameVerdictsRow.domain false w args ∧ laidMet Tryz.prog laidL w) ∧ sizedMet enc Tryz.prog Tryz.f4 (OpenSpec.ofChange Rows.fnExactSameVerdictsSpec) false w args) (Rows.fnExactSameVerdictsSpec.post enc Tryz.prog Tryz.f4 false true false false) := by
  refine returnsInHanded_of_calls (C := Tryz.checked) own started (by kernel_rfl)
    (ChangeSpec.witness_at (enc := enc) (C := Tryz.checked) (os := os) (s := Rows.fnExactSameVerdictsSpec) (conds := Rows.fnExactSameVerdictsRow.domain) (X := fun w _ => laidMet Tryz.prog laidL w) false (laidWorld os) #[.agg #[.int .i64 0, .int .i64 0, .slice none 0 0, .slice none 0 0, .slice none 0 0], .agg #[.int .i64 0, .int .i64 0, .slice none 0 0, .slice none 0 0, .slice none 0 0]] 8 rfl (by kernel_rfl) (by kernel_rfl) (by kernel_rfl) (by kernel_rfl) (by kernel_rfl) (laid_met os _)) ?_
  intro w tape i _ hsh _ hok hpre hholds
  obtain ⟨_, _, _, fn', hfn', _, _, _, _, hval0⟩ := hok
  have efn : fn' = Tryz.f4 := Option.some.inj (hfn'.symm.trans Tryz.func4)
  subst efn
  obtain ⟨⟨⟨ds, gs, before, hw0, hc⟩, hlaid⟩, hz⟩ := hpre
  have hW := DataW.Whole.of_heap (w' := w.forCall tape i) (by rfl) hw0
  have he : Env (w.forCall tape i) := Env.of (good_of (laidMet.of_heap (by rfl) hlaid) hsh)
  generalize hWg : w.forCall tape i = W at *
  generalize hag : i.args = args at *
  suffices hcalls : Calls Tryz.prog 4 args W fun e W' => ∃ v, e = .returned v ∧ Rows.fnExactSameVerdictsSpec.post enc Tryz.prog Tryz.f4 false true false false W args v W' by
    refine hcalls.mono fun e W' ⟨v, he, hp⟩ => ?_
    subst he
    exact ChangeSpec.post_blind hp
  have hval : ∀ (j : Nat) t v, Tryz.f4.params[j]? = some t → args[j]? = some v → Value.okWide Tryz.prog W .any w.heap.size t v := hval0
  have hW' := hW
  obtain ⟨p, q, hA0, hV, rfl, hfz, hnd⟩ := hW
  have hA : DataW.TrodAll enc Tryz.prog W 0 (fun _ => true) true Tryz.f4.params.toList args.toList ds p := hA0
  rw [Tryz.params4] at hA hval
  obtain ⟨v0, vs0, d0, ds0, p0, q0, hargs, rfl, rfl, h0, r0⟩ := trodAll_cons hA
  obtain ⟨v1, vs1, d1, ds1, p1, q1, rfl, rfl, rfl, h1, r1⟩ := trodAll_cons r0
  obtain ⟨rfl, rfl, rfl⟩ := trodAll_nil r1
  obtain rfl : args = #[v0, v1] := by cases args; simp_all
  obtain ⟨rfl, rfl⟩ := trodVars_none hV
  have lt0 : ∀ x ∈ p0, x.block < W.heap.size := by obtain ⟨m, hm⟩ := h0; exact DataW.trod_lt m _ _ _ hm
  obtain ⟨x0, a0⟩ := open_M (hval 0 47 v0 rfl rfl) h0 (fun b off hp => hfz b off (by simp [hp]))
  have lt1 : ∀ x ∈ p1, x.block < W.heap.size := by obtain ⟨m, hm⟩ := h1; exact DataW.trod_lt m _ _ _ hm
  obtain ⟨x1, a1⟩ := open_M (hval 1 47 v1 rfl rfl) h1 (fun b off hp => hfz b off (by simp [hp]))
  clear hA0 hval0 hval
  refine (walk v0 x0 v1 x1 W he a0 a1).mono fun e W' ⟨he, bel⟩ => ?_
  subst he
  exact ⟨_, rfl, _, _, _, [], _, [], hW', trodAll_mk1 (shut_bool Tryz.underlying4 _), (trodAll_cons_mk (Below.trod laidOut (by kernel_rfl) (of_decide_eq_true (by kernel_rfl)) h0 bel lt0) (trodAll_cons_mk (Below.trod laidOut (by kernel_rfl) (of_decide_eq_true (by kernel_rfl)) h1 bel lt1) trodAll_mk0)), rfl, bel.frame _, fun h => by cases h⟩

theorem c0 : Tryz.pinned.checked.prog.funcNamed "loop.example/g01075/laws.FnExactSameVerdicts" = some 4 := by kernel_rfl
theorem c5 : false = Rows.fnExactSameVerdictsRow.goesBy Tryz.pinned.checked.prog := by kernel_rfl
theorem c1 : Tryz.pinned.checked.prog.inPlace 4 = Rows.fnExactSameVerdictsRow.inPlace := by kernel_rfl
theorem c2 : Tryz.pinned.checked.prog.unfollowed 4 = Rows.fnExactSameVerdictsRow.unfollowed := by kernel_rfl
theorem c3 : Tryz.pinned.checked.prog.recurses 4 = Rows.fnExactSameVerdictsRow.recurses := by kernel_rfl
theorem c4 : Tryz.pinned.checked.prog.varsNamed 4 = Rows.fnExactSameVerdictsRow.named := by kernel_rfl
theorem joined : joinedFacts Tryz.pinned.checked.prog 4 Tryz.f4 Rows.fnExactSameVerdictsSpec Rows.fnExactSameVerdictsRow = true := by
  unfold joinedFacts
  rw [fact_laid, fact_maps, fact_heard, fact_enter, fact_lifts, fact_make, c1, c2, c3, c4]
  kernel_rfl
theorem over : Rows.fnExactSameVerdictsRow.holds Tryz.pinned (OpenSpec.ofChange Rows.fnExactSameVerdictsSpec) :=
  OpenClaim.holds_of_wide 4 Tryz.f4 rfl rfl rfl rfl rfl rfl rfl ⟨rfl, rfl, rfl, rfl, rfl⟩ rfl rfl rfl rfl rfl c0 Tryz.func4 joined
    (of_decide_eq_true (by kernel_rfl)) (by unfold Func.isWrapper; first | (rw [if_pos (by decide +kernel)]; kernel_rfl) | (rw [if_neg (by decide +kernel)]; exact ⟨rfl, rfl⟩))
    (fun os started H enc _ => by
      rw [pre_laid (c := Rows.fnExactSameVerdictsRow) rfl]
      exact lifted os started H enc)

theorem tied : Rows.FnExactSameVerdictsCardSaid :=
  Claim7.holds_tied_plain_at .later [] [.data, .data, .data, .data, .sentinel, .sentinel, .pinned] true (true, "908aadf79a3911da7d4960582ae04b5fb7cbc5fbb004ba15854af102615e9df1") true
    over (fun _ h => by cases h) (by kernel_rfl) (fun _ h => by cases h) fnExactSameVerdicts_row_tie rfl ⟨rfl, rfl⟩ fact_main rfl
    (fun f fn hf hfn => by
      obtain rfl : f = 4 := (Option.some.inj (c0.symm.trans hf)).symm
      obtain rfl : fn = Tryz.f4 := (Option.some.inj (Tryz.func4.symm.trans hfn)).symm
      exact ⟨fact_looks, fun j t ht => by
        rw [Tryz.params4] at ht
        rcases j with _ | j
        · obtain rfl : t = 47 := by simpa using ht.symm
          exact (show Tryz.prog.wantsStandIn 47 = false by kernel_rfl)
        rcases j with _ | j
        · obtain rfl : t = 47 := by simpa using ht.symm
          exact (show Tryz.prog.wantsStandIn 47 = false by kernel_rfl)
        simp at ht⟩)
    c5

end Go.Proofs.YtnhomkmfbngmgaaGreatDoor.lawSameVerdicts

namespace Go.Proofs.YtnhomkmfbngmgaaGreatDoor
theorem fnExactSameVerdicts_holds : Rows.FnExactSameVerdictsCardSaid := lawSameVerdicts.tied
end Go.Proofs.YtnhomkmfbngmgaaGreatDoor
