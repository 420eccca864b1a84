/-
  The law FnExactSimulationClasses returns true for every input. Conditions: none.
-/
import Derived.Test.YthlaoedpjloloaaGreatDoorClsR
import Derived.Test.YthlaoedpjloloaaGreatDoorFacts
import Derived.Deep.DeepCutAuto
namespace Go.Proofs.YthlaoedpjloloaaGreatDoor.lawSimulationClasses
open Go.ChangeShapes Go.WideShapes Go.ChangeAt Go.RowKit
set_option linter.unusedVariables false

theorem own : ownKnob Tryz.prog.godebug = none := by kernel_rfl
theorem laidOut : laidOutB Tryz.prog = true := fact_laid

theorem shape_L {v : Value} {d : DL} {w : World} {lo hi : Nat} (h : ArgL w lo hi v d) : ∃ (p0 : Int) (p1 : Int) (pA2 : Option Addr) (pn2 pc2 : Nat) (pA3 : Option Addr) (pn3 pc3 : Nat), v = .agg #[.int .i64 p0, .int .i64 p1, .slice pA2 pn2 pc2, .slice pA3 pn3 pc3] := by
  obtain ⟨x, rfl, h⟩ := h
  obtain ⟨A2, n2, c2, e2⟩ := h.2.2.1.shape
  obtain ⟨A3, n3, c3, e3⟩ := h.2.2.2.shape
  rw [e2, e3]
  exact ⟨_, _, _, _, _, _, _, _, rfl⟩

set_option maxHeartbeats 3200000 in
set_option maxRecDepth 100000 in
theorem walk (v0 : Value) (d0 : DL) (w : World) (he : Env w) (h0 : ArgL w 0 w.heap.size v0 d0) :
    Calls Tryz.prog 8 #[v0] w fun e w' => e = .returned (.bool true) ∧ Below w.heap.size w w' := by
  obtain ⟨p0_0, p0_1, p0_A2, p0_n2, p0_c2, p0_A3, p0_n3, p0_c3, rfl⟩ := shape_L h0
  have bel : Below w.heap.size w (w.alloc (.cells #[.int .i64 p0_0, .int .i64 p0_1, .slice p0_A2 p0_n2 p0_c2, .slice p0_A3 p0_n3 p0_c3] 25)) := ((Below.refl w.heap.size w).alloc (Nat.le_refl _) _)
  have k0_ : (w.alloc (.cells #[.int .i64 p0_0, .int .i64 p0_1, .slice p0_A2 p0_n2 p0_c2, .slice p0_A3 p0_n3 p0_c3] 25)).heap[w.heap.size]? = some (.cells #[.int .i64 p0_0, .int .i64 p0_1, .slice p0_A2 p0_n2 p0_c2, .slice p0_A3 p0_n3 p0_c3] 25 (0, 0)) := by
    have h := heap_alloc_new w (.cells #[.int .i64 p0_0, .int .i64 p0_1, .slice p0_A2 p0_n2 p0_c2, .slice p0_A3 p0_n3 p0_c3] 25)
    exact h
  have hz0 : w.heap.size < (w.alloc (.cells #[.int .i64 p0_0, .int .i64 p0_1, .slice p0_A2 p0_n2 p0_c2, .slice p0_A3 p0_n3 p0_c3] 25)).heap.size := by simp only [World.size_alloc]; omega
  replace h0 := h0.below bel (.inr (Nat.le_refl _))
  have he0 := he
  replace he := he.below bel (Nat.le_refl _)
  have sz0 := fun (W : World) (B : Nat) (hW : Below B (w.alloc (.cells #[.int .i64 p0_0, .int .i64 p0_1, .slice p0_A2 p0_n2 p0_c2, .slice p0_A3 p0_n3 p0_c3] 25)) W) (hB : (w.alloc (.cells #[.int .i64 p0_0, .int .i64 p0_1, .slice p0_A2 p0_n2 p0_c2, .slice p0_A3 p0_n3 p0_c3] 25)).heap.size ≤ B) => szLts_u (left := 1048576) (h0.below hW (.inr hB)) (by omega) (by omega)
  by_cases big0 : 1048576 < (totL d0 : Int)
  · simp only [szLeft_big big0] at sz0
    replace sz0 := hide sz0
    clear h0
    go_enter Tryz.func8, Tryz.ntmps8
    go_wp2_with fail
    generalize (w.alloc (.cells #[.int .i64 p0_0, .int .i64 p0_1, .slice p0_A2 p0_n2 p0_c2, .slice p0_A3 p0_n3 p0_c3] 25)) = w0 at *
    have sb := Below.refl w0.heap.size w0
    have ck0_0 : w0.cell? ⟨w.heap.size, 0, none⟩ = some (.int .i64 p0_0) := (cell_of_row _ _ 0 _ _ (0, 0) k0_).trans rfl
    have ck0_1 : w0.cell? ⟨w.heap.size, 1, none⟩ = some (.int .i64 p0_1) := (cell_of_row _ _ 1 _ _ (0, 0) k0_).trans rfl
    have ck0_2 : w0.cell? ⟨w.heap.size, 2, none⟩ = some (.slice p0_A2 p0_n2 p0_c2) := (cell_of_row _ _ 2 _ _ (0, 0) k0_).trans rfl
    have ck0_3 : w0.cell? ⟨w.heap.size, 3, none⟩ = some (.slice p0_A3 p0_n3 p0_c3) := (cell_of_row _ _ 3 _ _ (0, 0) k0_).trans rfl
    refine (sz0.out _ _ sb (Nat.le_refl _)).mono ?_
    rintro e s0 ⟨rfl, hb⟩
    replace sb := sb.trans (hb.mono sb.size)
    clear ck0_0 ck0_1 ck0_2 ck0_3
    replace k0_ := (hb.block _ hz0).trans k0_
    replace hz0 := Nat.lt_of_lt_of_le hz0 hb.size
    replace bel := bel.trans (hb.mono bel.size)
    have zzs0 := hb.size
    clear hb
    have ck0_0 : s0.cell? ⟨w.heap.size, 0, none⟩ = some (.int .i64 p0_0) := (cell_of_row _ _ 0 _ _ (0, 0) k0_).trans rfl
    have ck0_1 : s0.cell? ⟨w.heap.size, 1, none⟩ = some (.int .i64 p0_1) := (cell_of_row _ _ 1 _ _ (0, 0) k0_).trans rfl
    have ck0_2 : s0.cell? ⟨w.heap.size, 2, none⟩ = some (.slice p0_A2 p0_n2 p0_c2) := (cell_of_row _ _ 2 _ _ (0, 0) k0_).trans rfl
    have ck0_3 : s0.cell? ⟨w.heap.size, 3, none⟩ = some (.slice p0_A3 p0_n3 p0_c3) := (cell_of_row _ _ 3 _ _ (0, 0) k0_).trans rfl
    go_wp2_with fail
    go_ret
    exact ⟨rfl, bel⟩
  simp only [szLeft_fits big0] at sz0
  replace sz0 := hide sz0
  have ns0 : totL d0 ≤ 1048576 := by omega
  have nl0 : ¬ 1048576 - (totL d0 : Int) < 0 := by omega
  go_enter Tryz.func8, Tryz.ntmps8
  go_wp2_with fail
  generalize (w.alloc (.cells #[.int .i64 p0_0, .int .i64 p0_1, .slice p0_A2 p0_n2 p0_c2, .slice p0_A3 p0_n3 p0_c3] 25)) = w0 at *
  have zzb0 := hz0
  have zzbel := bel.size
  have sb := Below.refl w0.heap.size w0
  have ck0_0 : w0.cell? ⟨w.heap.size, 0, none⟩ = some (.int .i64 p0_0) := (cell_of_row _ _ 0 _ _ (0, 0) k0_).trans rfl
  have ck0_1 : w0.cell? ⟨w.heap.size, 1, none⟩ = some (.int .i64 p0_1) := (cell_of_row _ _ 1 _ _ (0, 0) k0_).trans rfl
  have ck0_2 : w0.cell? ⟨w.heap.size, 2, none⟩ = some (.slice p0_A2 p0_n2 p0_c2) := (cell_of_row _ _ 2 _ _ (0, 0) k0_).trans rfl
  have ck0_3 : w0.cell? ⟨w.heap.size, 3, none⟩ = some (.slice p0_A3 p0_n3 p0_c3) := (cell_of_row _ _ 3 _ _ (0, 0) k0_).trans rfl
  refine (sz0.out _ _ sb (Nat.le_refl _)).mono ?_
  rintro e w1 ⟨rfl, hb⟩
  replace sb := sb.trans (hb.mono sb.size)
  clear ck0_0 ck0_1 ck0_2 ck0_3
  replace k0_ := (hb.block _ hz0).trans k0_
  replace hz0 := Nat.lt_of_lt_of_le hz0 hb.size
  replace h0 := h0.below hb (.inr (Nat.le_refl _))
  replace he := he.below hb (Nat.le_refl _)
  replace bel := bel.trans (hb.mono bel.size)
  have zzw1 := hb.size
  clear hb
  have ck0_0 : w1.cell? ⟨w.heap.size, 0, none⟩ = some (.int .i64 p0_0) := (cell_of_row _ _ 0 _ _ (0, 0) k0_).trans rfl
  have ck0_1 : w1.cell? ⟨w.heap.size, 1, none⟩ = some (.int .i64 p0_1) := (cell_of_row _ _ 1 _ _ (0, 0) k0_).trans rfl
  have ck0_2 : w1.cell? ⟨w.heap.size, 2, none⟩ = some (.slice p0_A2 p0_n2 p0_c2) := (cell_of_row _ _ 2 _ _ (0, 0) k0_).trans rfl
  have ck0_3 : w1.cell? ⟨w.heap.size, 3, none⟩ = some (.slice p0_A3 p0_n3 p0_c3) := (cell_of_row _ _ 3 _ _ (0, 0) k0_).trans rfl
  clear sb sz0
  go_wp2_with fail
  refine (toLts_u h0 ns0).mono ?_
  rintro e w2 ⟨us0, rfl, s0, hb⟩
  clear ck0_0 ck0_1 ck0_2 ck0_3
  replace k0_ := (hb.block _ hz0).trans k0_
  replace hz0 := Nat.lt_of_lt_of_le hz0 hb.size
  replace h0 := h0.below hb (.inr (Nat.le_refl _))
  replace he := he.below hb (Nat.le_refl _)
  replace bel := bel.trans (hb.mono bel.size)
  have zzw2 := hb.size
  clear hb
  have ck0_0 : w2.cell? ⟨w.heap.size, 0, none⟩ = some (.int .i64 p0_0) := (cell_of_row _ _ 0 _ _ (0, 0) k0_).trans rfl
  have ck0_1 : w2.cell? ⟨w.heap.size, 1, none⟩ = some (.int .i64 p0_1) := (cell_of_row _ _ 1 _ _ (0, 0) k0_).trans rfl
  have ck0_2 : w2.cell? ⟨w.heap.size, 2, none⟩ = some (.slice p0_A2 p0_n2 p0_c2) := (cell_of_row _ _ 2 _ _ (0, 0) k0_).trans rfl
  have ck0_3 : w2.cell? ⟨w.heap.size, 3, none⟩ = some (.slice p0_A3 p0_n3 p0_c3) := (cell_of_row _ _ 3 _ _ (0, 0) k0_).trans rfl
  go_wp2_with fail
  refine (specSimulationClasses_u (w := w2) he s0 (by omega)).mono ?_
  rintro e w3 ⟨uw0, rfl, rw0, hb⟩
  clear ck0_0 ck0_1 ck0_2 ck0_3
  replace k0_ := (hb.block _ hz0).trans k0_
  replace hz0 := Nat.lt_of_lt_of_le hz0 hb.size
  replace h0 := h0.below hb (.inr (Nat.le_refl _))
  replace he := he.below hb (Nat.le_refl _)
  replace s0 := s0.below hb (.inr (Nat.le_refl _))
  replace bel := bel.trans (hb.mono bel.size)
  have zzw3 := hb.size
  clear hb
  have ck0_0 : w3.cell? ⟨w.heap.size, 0, none⟩ = some (.int .i64 p0_0) := (cell_of_row _ _ 0 _ _ (0, 0) k0_).trans rfl
  have ck0_1 : w3.cell? ⟨w.heap.size, 1, none⟩ = some (.int .i64 p0_1) := (cell_of_row _ _ 1 _ _ (0, 0) k0_).trans rfl
  have ck0_2 : w3.cell? ⟨w.heap.size, 2, none⟩ = some (.slice p0_A2 p0_n2 p0_c2) := (cell_of_row _ _ 2 _ _ (0, 0) k0_).trans rfl
  have ck0_3 : w3.cell? ⟨w.heap.size, 3, none⟩ = some (.slice p0_A3 p0_n3 p0_c3) := (cell_of_row _ _ 3 _ _ (0, 0) k0_).trans rfl
  go_wp2_with fail
  refine (toLts_u h0 ns0).mono ?_
  rintro e w4 ⟨ux0, rfl, x0, hb⟩
  clear ck0_0 ck0_1 ck0_2 ck0_3
  replace k0_ := (hb.block _ hz0).trans k0_
  replace hz0 := Nat.lt_of_lt_of_le hz0 hb.size
  replace h0 := h0.below hb (.inr (Nat.le_refl _))
  replace he := he.below hb (Nat.le_refl _)
  replace rw0 := rw0.below hb (.inr (Nat.le_refl _))
  replace bel := bel.trans (hb.mono bel.size)
  have zzw4 := hb.size
  clear hb
  have ck0_0 : w4.cell? ⟨w.heap.size, 0, none⟩ = some (.int .i64 p0_0) := (cell_of_row _ _ 0 _ _ (0, 0) k0_).trans rfl
  have ck0_1 : w4.cell? ⟨w.heap.size, 1, none⟩ = some (.int .i64 p0_1) := (cell_of_row _ _ 1 _ _ (0, 0) k0_).trans rfl
  have ck0_2 : w4.cell? ⟨w.heap.size, 2, none⟩ = some (.slice p0_A2 p0_n2 p0_c2) := (cell_of_row _ _ 2 _ _ (0, 0) k0_).trans rfl
  have ck0_3 : w4.cell? ⟨w.heap.size, 3, none⟩ = some (.slice p0_A3 p0_n3 p0_c3) := (cell_of_row _ _ 3 _ _ (0, 0) k0_).trans rfl
  obtain ⟨q0_0, q0_1, q0_A2, q0_n2, q0_c2, q0_A3, q0_n3, q0_c3, rfl⟩ := shape_L x0.1
  have hb : Below w4.heap.size w4 (w4.alloc (.cells #[.int .i64 q0_0, .int .i64 q0_1, .slice q0_A2 q0_n2 q0_c2, .slice q0_A3 q0_n3 q0_c3] 31)) := (Below.refl _ _).alloc (Nat.le_refl _) _
  have kx0 := heap_alloc_new w4 (.cells #[.int .i64 q0_0, .int .i64 q0_1, .slice q0_A2 q0_n2 q0_c2, .slice q0_A3 q0_n3 q0_c3] 31)
  have hzx0 : w4.heap.size < (w4.alloc (.cells #[.int .i64 q0_0, .int .i64 q0_1, .slice q0_A2 q0_n2 q0_c2, .slice q0_A3 q0_n3 q0_c3] 31)).heap.size := by rw [World.size_alloc]; omega
  clear ck0_0 ck0_1 ck0_2 ck0_3
  replace k0_ := (hb.block _ hz0).trans k0_
  replace hz0 := Nat.lt_of_lt_of_le hz0 hb.size
  replace h0 := h0.below hb (.inr (Nat.le_refl _))
  replace he := he.below hb (Nat.le_refl _)
  replace rw0 := rw0.below hb (.inr (Nat.le_refl _))
  replace x0 := x0.below hb (.inr (Nat.le_refl _))
  replace bel := bel.trans (hb.mono bel.size)
  have zzw5 := hb.size
  clear hb
  go_wp2_with fail
  generalize (w4.alloc (.cells #[.int .i64 q0_0, .int .i64 q0_1, .slice q0_A2 q0_n2 q0_c2, .slice q0_A3 q0_n3 q0_c3] 31)) = w5 at *
  generalize w4.heap.size = bx0 at *
  have ck0_0 : w5.cell? ⟨w.heap.size, 0, none⟩ = some (.int .i64 p0_0) := (cell_of_row _ _ 0 _ _ (0, 0) k0_).trans rfl
  have ck0_1 : w5.cell? ⟨w.heap.size, 1, none⟩ = some (.int .i64 p0_1) := (cell_of_row _ _ 1 _ _ (0, 0) k0_).trans rfl
  have ck0_2 : w5.cell? ⟨w.heap.size, 2, none⟩ = some (.slice p0_A2 p0_n2 p0_c2) := (cell_of_row _ _ 2 _ _ (0, 0) k0_).trans rfl
  have ck0_3 : w5.cell? ⟨w.heap.size, 3, none⟩ = some (.slice p0_A3 p0_n3 p0_c3) := (cell_of_row _ _ 3 _ _ (0, 0) k0_).trans rfl
  have ckx00 : w5.cell? ⟨bx0, 0, none⟩ = some (.int .i64 q0_0) := (cell_of_row _ _ 0 _ _ (0, 0) kx0).trans rfl
  have ckx01 : w5.cell? ⟨bx0, 1, none⟩ = some (.int .i64 q0_1) := (cell_of_row _ _ 1 _ _ (0, 0) kx0).trans rfl
  have ckx02 : w5.cell? ⟨bx0, 2, none⟩ = some (.slice q0_A2 q0_n2 q0_c2) := (cell_of_row _ _ 2 _ _ (0, 0) kx0).trans rfl
  have ckx03 : w5.cell? ⟨bx0, 3, none⟩ = some (.slice q0_A3 q0_n3 q0_c3) := (cell_of_row _ _ 3 _ _ (0, 0) kx0).trans rfl
  go_wp2_with fail
  refine (implSimulationClasses_u (w := w5) he x0 (by omega)).mono ?_
  rintro e w6 ⟨ug0, rfl, rg0, hb⟩
  clear ck0_0 ck0_1 ck0_2 ck0_3 ckx00 ckx01 ckx02 ckx03
  replace k0_ := (hb.block _ hz0).trans k0_
  replace hz0 := Nat.lt_of_lt_of_le hz0 hb.size
  replace kx0 := (hb.block _ hzx0).trans kx0
  replace hzx0 := Nat.lt_of_lt_of_le hzx0 hb.size
  replace h0 := h0.below hb (.inr (Nat.le_refl _))
  replace he := he.below hb (Nat.le_refl _)
  replace rw0 := rw0.below hb (.inr (Nat.le_refl _))
  replace x0 := x0.below hb (.inr (Nat.le_refl _))
  replace bel := bel.trans (hb.mono bel.size)
  have zzw6 := hb.size
  clear hb
  have ck0_0 : w6.cell? ⟨w.heap.size, 0, none⟩ = some (.int .i64 p0_0) := (cell_of_row _ _ 0 _ _ (0, 0) k0_).trans rfl
  have ck0_1 : w6.cell? ⟨w.heap.size, 1, none⟩ = some (.int .i64 p0_1) := (cell_of_row _ _ 1 _ _ (0, 0) k0_).trans rfl
  have ck0_2 : w6.cell? ⟨w.heap.size, 2, none⟩ = some (.slice p0_A2 p0_n2 p0_c2) := (cell_of_row _ _ 2 _ _ (0, 0) k0_).trans rfl
  have ck0_3 : w6.cell? ⟨w.heap.size, 3, none⟩ = some (.slice p0_A3 p0_n3 p0_c3) := (cell_of_row _ _ 3 _ _ (0, 0) k0_).trans rfl
  have ckx00 : w6.cell? ⟨bx0, 0, none⟩ = some (.int .i64 q0_0) := (cell_of_row _ _ 0 _ _ (0, 0) kx0).trans rfl
  have ckx01 : w6.cell? ⟨bx0, 1, none⟩ = some (.int .i64 q0_1) := (cell_of_row _ _ 1 _ _ (0, 0) kx0).trans rfl
  have ckx02 : w6.cell? ⟨bx0, 2, none⟩ = some (.slice q0_A2 q0_n2 q0_c2) := (cell_of_row _ _ 2 _ _ (0, 0) kx0).trans rfl
  have ckx03 : w6.cell? ⟨bx0, 3, none⟩ = some (.slice q0_A3 q0_n3 q0_c3) := (cell_of_row _ _ 3 _ _ (0, 0) kx0).trans rfl
  go_wp2_with fail
  refine (eqInt64S_u rg0 rw0).mono ?_
  rintro e w7 ⟨rfl, hb⟩
  clear ck0_0 ck0_1 ck0_2 ck0_3 ckx00 ckx01 ckx02 ckx03
  replace k0_ := (hb.block _ hz0).trans k0_
  replace hz0 := Nat.lt_of_lt_of_le hz0 hb.size
  replace kx0 := (hb.block _ hzx0).trans kx0
  replace hzx0 := Nat.lt_of_lt_of_le hzx0 hb.size
  replace h0 := h0.below hb (.inr (Nat.le_refl _))
  replace he := he.below hb (Nat.le_refl _)
  replace rw0 := rw0.below hb (.inr (Nat.le_refl _))
  replace x0 := x0.below hb (.inr (Nat.le_refl _))
  replace rg0 := rg0.below hb (.inr (Nat.le_refl _))
  replace bel := bel.trans (hb.mono bel.size)
  have zzw7 := hb.size
  clear hb
  have ck0_0 : w7.cell? ⟨w.heap.size, 0, none⟩ = some (.int .i64 p0_0) := (cell_of_row _ _ 0 _ _ (0, 0) k0_).trans rfl
  have ck0_1 : w7.cell? ⟨w.heap.size, 1, none⟩ = some (.int .i64 p0_1) := (cell_of_row _ _ 1 _ _ (0, 0) k0_).trans rfl
  have ck0_2 : w7.cell? ⟨w.heap.size, 2, none⟩ = some (.slice p0_A2 p0_n2 p0_c2) := (cell_of_row _ _ 2 _ _ (0, 0) k0_).trans rfl
  have ck0_3 : w7.cell? ⟨w.heap.size, 3, none⟩ = some (.slice p0_A3 p0_n3 p0_c3) := (cell_of_row _ _ 3 _ _ (0, 0) k0_).trans rfl
  have ckx00 : w7.cell? ⟨bx0, 0, none⟩ = some (.int .i64 q0_0) := (cell_of_row _ _ 0 _ _ (0, 0) kx0).trans rfl
  have ckx01 : w7.cell? ⟨bx0, 1, none⟩ = some (.int .i64 q0_1) := (cell_of_row _ _ 1 _ _ (0, 0) kx0).trans rfl
  have ckx02 : w7.cell? ⟨bx0, 2, none⟩ = some (.slice q0_A2 q0_n2 q0_c2) := (cell_of_row _ _ 2 _ _ (0, 0) kx0).trans rfl
  have ckx03 : w7.cell? ⟨bx0, 3, none⟩ = some (.slice q0_A3 q0_n3 q0_c3) := (cell_of_row _ _ 3 _ _ (0, 0) kx0).trans rfl
  go_wp2_with fail
  have hD : Below w7.heap.size w7 w7.drew := (Below.refl _ _).drew
  replace k0_ := hide k0_
  replace kx0 := hide kx0
  go_cut [45] (fun v wx => v = .bool false ∧ Below w7.heap.size w7 wx)
  case first =>
    go_region_law (first
      | (go_simp; go_at_call 11; (with_reducible refine (toLts_u (h0.below hD (.inr (Nat.le_refl _))) ns0).mono ?_); rintro e w8 ⟨ut0, rfl, t0, hb7⟩; have ek0_0 : w8.cell? ⟨w.heap.size, 0, none⟩ = some (.int .i64 p0_0) := (cell_of_row _ _ 0 _ _ (0, 0) ((hb7.block _ hz0).trans k0_.out)).trans rfl; have ek0_1 : w8.cell? ⟨w.heap.size, 1, none⟩ = some (.int .i64 p0_1) := (cell_of_row _ _ 1 _ _ (0, 0) ((hb7.block _ hz0).trans k0_.out)).trans rfl; have ek0_2 : w8.cell? ⟨w.heap.size, 2, none⟩ = some (.slice p0_A2 p0_n2 p0_c2) := (cell_of_row _ _ 2 _ _ (0, 0) ((hb7.block _ hz0).trans k0_.out)).trans rfl; have ek0_3 : w8.cell? ⟨w.heap.size, 3, none⟩ = some (.slice p0_A3 p0_n3 p0_c3) := (cell_of_row _ _ 3 _ _ (0, 0) ((hb7.block _ hz0).trans k0_.out)).trans rfl; have ekx00 : w8.cell? ⟨bx0, 0, none⟩ = some (.int .i64 q0_0) := (cell_of_row _ _ 0 _ _ (0, 0) ((hb7.block _ hzx0).trans kx0.out)).trans rfl; have ekx01 : w8.cell? ⟨bx0, 1, none⟩ = some (.int .i64 q0_1) := (cell_of_row _ _ 1 _ _ (0, 0) ((hb7.block _ hzx0).trans kx0.out)).trans rfl; have ekx02 : w8.cell? ⟨bx0, 2, none⟩ = some (.slice q0_A2 q0_n2 q0_c2) := (cell_of_row _ _ 2 _ _ (0, 0) ((hb7.block _ hzx0).trans kx0.out)).trans rfl; have ekx03 : w8.cell? ⟨bx0, 3, none⟩ = some (.slice q0_A3 q0_n3 q0_c3) := (cell_of_row _ _ 3 _ _ (0, 0) ((hb7.block _ hzx0).trans kx0.out)).trans rfl; have qeq := eqLts_u (x0.below (hD.trans hb7) (.inr (Nat.le_refl _))) t0; rw [decide_eq_true rfl] at qeq; replace qeq := hide qeq)
      | (go_simp; go_at_call 13; (with_reducible refine qeq.out.mono ?_); rintro e w9 ⟨rfl, hb8⟩))
    all_goals (go_wp2_with fail; go_meet)
    all_goals exact ⟨rfl, hD.trans (hb7.trans (hb8.mono hb7.size))⟩
  case rest =>
  obtain ⟨rfl, hb⟩ := hcut
  generalize wc = w9 at *
  clear hD
  replace k0_ := k0_.out
  replace kx0 := kx0.out
  clear ck0_0 ck0_1 ck0_2 ck0_3 ckx00 ckx01 ckx02 ckx03
  replace k0_ := (hb.block _ hz0).trans k0_
  replace hz0 := Nat.lt_of_lt_of_le hz0 hb.size
  replace kx0 := (hb.block _ hzx0).trans kx0
  replace hzx0 := Nat.lt_of_lt_of_le hzx0 hb.size
  replace h0 := h0.below hb (.inr (Nat.le_refl _))
  replace he := he.below hb (Nat.le_refl _)
  replace rw0 := rw0.below hb (.inr (Nat.le_refl _))
  replace x0 := x0.below hb (.inr (Nat.le_refl _))
  replace rg0 := rg0.below hb (.inr (Nat.le_refl _))
  replace bel := bel.trans (hb.mono bel.size)
  have zzw9 := hb.size
  clear hb
  have ck0_0 : w9.cell? ⟨w.heap.size, 0, none⟩ = some (.int .i64 p0_0) := (cell_of_row _ _ 0 _ _ (0, 0) k0_).trans rfl
  have ck0_1 : w9.cell? ⟨w.heap.size, 1, none⟩ = some (.int .i64 p0_1) := (cell_of_row _ _ 1 _ _ (0, 0) k0_).trans rfl
  have ck0_2 : w9.cell? ⟨w.heap.size, 2, none⟩ = some (.slice p0_A2 p0_n2 p0_c2) := (cell_of_row _ _ 2 _ _ (0, 0) k0_).trans rfl
  have ck0_3 : w9.cell? ⟨w.heap.size, 3, none⟩ = some (.slice p0_A3 p0_n3 p0_c3) := (cell_of_row _ _ 3 _ _ (0, 0) k0_).trans rfl
  have ckx00 : w9.cell? ⟨bx0, 0, none⟩ = some (.int .i64 q0_0) := (cell_of_row _ _ 0 _ _ (0, 0) kx0).trans rfl
  have ckx01 : w9.cell? ⟨bx0, 1, none⟩ = some (.int .i64 q0_1) := (cell_of_row _ _ 1 _ _ (0, 0) kx0).trans rfl
  have ckx02 : w9.cell? ⟨bx0, 2, none⟩ = some (.slice q0_A2 q0_n2 q0_c2) := (cell_of_row _ _ 2 _ _ (0, 0) kx0).trans rfl
  have ckx03 : w9.cell? ⟨bx0, 3, none⟩ = some (.slice q0_A3 q0_n3 q0_c3) := (cell_of_row _ _ 3 _ _ (0, 0) kx0).trans rfl
  go_wp2_with fail
  refine (markLts_u (m := 1) x0 (by omega) (by omega) (by omega)).mono ?_
  rintro e w10 ⟨k50, rfl, ka0, kb0, ho⟩
  clear ck0_0 ck0_1 ck0_2 ck0_3 ckx00 ckx01 ckx02 ckx03
  have zzw10 := ho.size
  replace k0_ := (ho.block _ hz0 (by omega)).trans k0_
  replace hz0 := Nat.lt_of_lt_of_le hz0 (ho.size)
  replace bel := Only.below bel ho (by omega) bel.size
  replace h0 := h0.only ho (by omega)
  replace he := he0.below bel (Nat.le_refl _)
  replace rw0 := rw0.only ho (by omega)
  replace rg0 := rg0.only ho (by omega)
  clear ho
  have ck0_0 : w10.cell? ⟨w.heap.size, 0, none⟩ = some (.int .i64 p0_0) := (cell_of_row _ _ 0 _ _ (0, 0) k0_).trans rfl
  have ck0_1 : w10.cell? ⟨w.heap.size, 1, none⟩ = some (.int .i64 p0_1) := (cell_of_row _ _ 1 _ _ (0, 0) k0_).trans rfl
  have ck0_2 : w10.cell? ⟨w.heap.size, 2, none⟩ = some (.slice p0_A2 p0_n2 p0_c2) := (cell_of_row _ _ 2 _ _ (0, 0) k0_).trans rfl
  have ck0_3 : w10.cell? ⟨w.heap.size, 3, none⟩ = some (.slice p0_A3 p0_n3 p0_c3) := (cell_of_row _ _ 3 _ _ (0, 0) k0_).trans rfl
  go_wp2_with fail
  refine (eqInt64S_u rg0 rw0).mono ?_
  rintro e w11 ⟨rfl, hb⟩
  clear ck0_0 ck0_1 ck0_2 ck0_3
  replace k0_ := (hb.block _ hz0).trans k0_
  replace hz0 := Nat.lt_of_lt_of_le hz0 hb.size
  replace h0 := h0.below hb (.inr (Nat.le_refl _))
  replace he := he.below hb (Nat.le_refl _)
  replace rw0 := rw0.below hb (.inr (Nat.le_refl _))
  replace rg0 := rg0.below hb (.inr (Nat.le_refl _))
  replace bel := bel.trans (hb.mono bel.size)
  have zzw11 := hb.size
  clear hb
  have ck0_0 : w11.cell? ⟨w.heap.size, 0, none⟩ = some (.int .i64 p0_0) := (cell_of_row _ _ 0 _ _ (0, 0) k0_).trans rfl
  have ck0_1 : w11.cell? ⟨w.heap.size, 1, none⟩ = some (.int .i64 p0_1) := (cell_of_row _ _ 1 _ _ (0, 0) k0_).trans rfl
  have ck0_2 : w11.cell? ⟨w.heap.size, 2, none⟩ = some (.slice p0_A2 p0_n2 p0_c2) := (cell_of_row _ _ 2 _ _ (0, 0) k0_).trans rfl
  have ck0_3 : w11.cell? ⟨w.heap.size, 3, none⟩ = some (.slice p0_A3 p0_n3 p0_c3) := (cell_of_row _ _ 3 _ _ (0, 0) k0_).trans rfl
  go_wp2_with fail
  refine (markInt64S_u (m := 1) rg0 (by omega) (by omega)).mono ?_
  rintro e w12 ⟨m0, dm0, rfl, ma0, mb0, ho, rgm0, hm0⟩
  clear ck0_0 ck0_1 ck0_2 ck0_3
  have zzw12 := ho.size
  replace k0_ := (ho.block _ hz0 (by omega)).trans k0_
  replace hz0 := Nat.lt_of_lt_of_le hz0 (ho.size)
  replace bel := Only.below bel ho (by omega) bel.size
  replace h0 := h0.only ho (by omega)
  replace he := he0.below bel (Nat.le_refl _)
  replace rw0 := rw0.only ho (by omega)
  clear ho
  have ck0_0 : w12.cell? ⟨w.heap.size, 0, none⟩ = some (.int .i64 p0_0) := (cell_of_row _ _ 0 _ _ (0, 0) k0_).trans rfl
  have ck0_1 : w12.cell? ⟨w.heap.size, 1, none⟩ = some (.int .i64 p0_1) := (cell_of_row _ _ 1 _ _ (0, 0) k0_).trans rfl
  have ck0_2 : w12.cell? ⟨w.heap.size, 2, none⟩ = some (.slice p0_A2 p0_n2 p0_c2) := (cell_of_row _ _ 2 _ _ (0, 0) k0_).trans rfl
  have ck0_3 : w12.cell? ⟨w.heap.size, 3, none⟩ = some (.slice p0_A3 p0_n3 p0_c3) := (cell_of_row _ _ 3 _ _ (0, 0) k0_).trans rfl
  go_wp2_with fail
  refine (heldInt64S_u rgm0 hm0).mono ?_
  rintro e w' ⟨rfl, rfl⟩
  go_wp2_with fail
  refine (toLts_u h0 ns0).mono ?_
  rintro e w13 ⟨uy0, rfl, y0, hb⟩
  clear ck0_0 ck0_1 ck0_2 ck0_3
  replace k0_ := (hb.block _ hz0).trans k0_
  replace hz0 := Nat.lt_of_lt_of_le hz0 hb.size
  replace h0 := h0.below hb (.inr (Nat.le_refl _))
  replace he := he.below hb (Nat.le_refl _)
  replace rw0 := rw0.below hb (.inr (Nat.le_refl _))
  replace rgm0 := rgm0.below hb (.inr (Nat.le_refl _))
  replace bel := bel.trans (hb.mono bel.size)
  have zzw13 := hb.size
  clear hb
  have ck0_0 : w13.cell? ⟨w.heap.size, 0, none⟩ = some (.int .i64 p0_0) := (cell_of_row _ _ 0 _ _ (0, 0) k0_).trans rfl
  have ck0_1 : w13.cell? ⟨w.heap.size, 1, none⟩ = some (.int .i64 p0_1) := (cell_of_row _ _ 1 _ _ (0, 0) k0_).trans rfl
  have ck0_2 : w13.cell? ⟨w.heap.size, 2, none⟩ = some (.slice p0_A2 p0_n2 p0_c2) := (cell_of_row _ _ 2 _ _ (0, 0) k0_).trans rfl
  have ck0_3 : w13.cell? ⟨w.heap.size, 3, none⟩ = some (.slice p0_A3 p0_n3 p0_c3) := (cell_of_row _ _ 3 _ _ (0, 0) k0_).trans rfl
  go_wp2_with fail
  refine (implSimulationClasses_u (w := w13) he y0 (by omega)).mono ?_
  rintro e w14 ⟨uh0, rfl, rh0, hb⟩
  clear ck0_0 ck0_1 ck0_2 ck0_3
  replace k0_ := (hb.block _ hz0).trans k0_
  replace hz0 := Nat.lt_of_lt_of_le hz0 hb.size
  replace h0 := h0.below hb (.inr (Nat.le_refl _))
  replace he := he.below hb (Nat.le_refl _)
  replace rw0 := rw0.below hb (.inr (Nat.le_refl _))
  replace rgm0 := rgm0.below hb (.inr (Nat.le_refl _))
  replace y0 := y0.below hb (.inr (Nat.le_refl _))
  replace bel := bel.trans (hb.mono bel.size)
  have zzw14 := hb.size
  clear hb
  have ck0_0 : w14.cell? ⟨w.heap.size, 0, none⟩ = some (.int .i64 p0_0) := (cell_of_row _ _ 0 _ _ (0, 0) k0_).trans rfl
  have ck0_1 : w14.cell? ⟨w.heap.size, 1, none⟩ = some (.int .i64 p0_1) := (cell_of_row _ _ 1 _ _ (0, 0) k0_).trans rfl
  have ck0_2 : w14.cell? ⟨w.heap.size, 2, none⟩ = some (.slice p0_A2 p0_n2 p0_c2) := (cell_of_row _ _ 2 _ _ (0, 0) k0_).trans rfl
  have ck0_3 : w14.cell? ⟨w.heap.size, 3, none⟩ = some (.slice p0_A3 p0_n3 p0_c3) := (cell_of_row _ _ 3 _ _ (0, 0) k0_).trans rfl
  go_wp2_with fail
  refine (eqInt64S_u rh0 rw0).mono ?_
  rintro e w15 ⟨rfl, hb⟩
  clear ck0_0 ck0_1 ck0_2 ck0_3
  replace k0_ := (hb.block _ hz0).trans k0_
  replace hz0 := Nat.lt_of_lt_of_le hz0 hb.size
  replace h0 := h0.below hb (.inr (Nat.le_refl _))
  replace he := he.below hb (Nat.le_refl _)
  replace rw0 := rw0.below hb (.inr (Nat.le_refl _))
  replace rgm0 := rgm0.below hb (.inr (Nat.le_refl _))
  replace y0 := y0.below hb (.inr (Nat.le_refl _))
  replace rh0 := rh0.below hb (.inr (Nat.le_refl _))
  replace bel := bel.trans (hb.mono bel.size)
  have zzw15 := hb.size
  clear hb
  have ck0_0 : w15.cell? ⟨w.heap.size, 0, none⟩ = some (.int .i64 p0_0) := (cell_of_row _ _ 0 _ _ (0, 0) k0_).trans rfl
  have ck0_1 : w15.cell? ⟨w.heap.size, 1, none⟩ = some (.int .i64 p0_1) := (cell_of_row _ _ 1 _ _ (0, 0) k0_).trans rfl
  have ck0_2 : w15.cell? ⟨w.heap.size, 2, none⟩ = some (.slice p0_A2 p0_n2 p0_c2) := (cell_of_row _ _ 2 _ _ (0, 0) k0_).trans rfl
  have ck0_3 : w15.cell? ⟨w.heap.size, 3, none⟩ = some (.slice p0_A3 p0_n3 p0_c3) := (cell_of_row _ _ 3 _ _ (0, 0) k0_).trans rfl
  go_wp2_with fail
  refine (heldInt64S_u rgm0 hm0).mono ?_
  rintro e w' ⟨rfl, rfl⟩
  go_wp2_with fail
  go_ret
  exact ⟨rfl, bel⟩

set_option maxRecDepth 100000 in
theorem lifted (os : Os) (started : os.Started) (H : Type) (enc : TypeId × Value → H) :
    ReturnsInHanded {} Tryz.checked os 8 .any (fun w args => (Rows.fnExactSimulationClassesSpec.pre enc Tryz.prog Tryz.f8 Rows.fnExactSimulationClassesRow.domain false w args ∧ laidMet Tryz.prog laidL w) ∧ sizedMet enc Tryz.prog Tryz.f8 (OpenSpec.ofChange Rows.fnExactSimulationClassesSpec) false w args) (Rows.fnExactSimulationClassesSpec.post enc Tryz.prog Tryz.f8 false true false false) := by
  refine returnsInHanded_of_calls (C := Tryz.checked) own started (by kernel_rfl)
    (ChangeSpec.witness_at (enc := enc) (C := Tryz.checked) (os := os) (s := Rows.fnExactSimulationClassesSpec) (conds := Rows.fnExactSimulationClassesRow.domain) (X := fun w _ => laidMet Tryz.prog laidL w) false (laidWorld os) #[.agg #[.int .i64 0, .int .i64 0, .slice none 0 0, .slice none 0 0]] 8 rfl (by kernel_rfl) (by kernel_rfl) (by kernel_rfl) (by kernel_rfl) (by kernel_rfl) (laid_met os _)) ?_
  intro w tape i _ hsh _ hok hpre hholds
  obtain ⟨_, _, _, fn', hfn', _, _, _, _, hval0⟩ := hok
  have efn : fn' = Tryz.f8 := Option.some.inj (hfn'.symm.trans Tryz.func8)
  subst efn
  obtain ⟨⟨⟨ds, gs, before, hw0, hc⟩, hlaid⟩, hz⟩ := hpre
  have hW := DataW.Whole.of_heap (w' := w.forCall tape i) (by rfl) hw0
  have he : Env (w.forCall tape i) := Env.of (good_of (laidMet.of_heap (by rfl) hlaid) hsh)
  generalize hWg : w.forCall tape i = W at *
  generalize hag : i.args = args at *
  suffices hcalls : Calls Tryz.prog 8 args W fun e W' => ∃ v, e = .returned v ∧ Rows.fnExactSimulationClassesSpec.post enc Tryz.prog Tryz.f8 false true false false W args v W' by
    refine hcalls.mono fun e W' ⟨v, he, hp⟩ => ?_
    subst he
    exact ChangeSpec.post_blind hp
  have hval : ∀ (j : Nat) t v, Tryz.f8.params[j]? = some t → args[j]? = some v → Value.okWide Tryz.prog W .any w.heap.size t v := hval0
  have hW' := hW
  obtain ⟨p, q, hA0, hV, rfl, hfz, hnd⟩ := hW
  have hA : DataW.TrodAll enc Tryz.prog W 0 (fun _ => true) true Tryz.f8.params.toList args.toList ds p := hA0
  rw [Tryz.params8] at hA hval
  obtain ⟨v0, vs0, d0, ds0, p0, q0, hargs, rfl, rfl, h0, r0⟩ := trodAll_cons hA
  obtain ⟨rfl, rfl, rfl⟩ := trodAll_nil r0
  obtain rfl : args = #[v0] := by cases args; simp_all
  obtain ⟨rfl, rfl⟩ := trodVars_none hV
  have lt0 : ∀ x ∈ p0, x.block < W.heap.size := by obtain ⟨m, hm⟩ := h0; exact DataW.trod_lt m _ _ _ hm
  obtain ⟨x0, a0⟩ := open_L (hval 0 25 v0 rfl rfl) h0 (fun b off hp => hfz b off (by simp [hp]))
  clear hA0 hval0 hval
  refine (walk v0 x0 W he a0).mono fun e W' ⟨he, bel⟩ => ?_
  subst he
  exact ⟨_, rfl, _, _, _, [], _, [], hW', trodAll_mk1 (shut_bool Tryz.underlying4 _), (trodAll_cons_mk (Below.trod laidOut (by kernel_rfl) (of_decide_eq_true (by kernel_rfl)) h0 bel lt0) trodAll_mk0), rfl, bel.frame _, fun h => by cases h⟩

theorem c0 : Tryz.pinned.checked.prog.funcNamed "loop.example/g01075/laws.FnExactSimulationClasses" = some 8 := by kernel_rfl
theorem c5 : false = Rows.fnExactSimulationClassesRow.goesBy Tryz.pinned.checked.prog := by kernel_rfl
theorem c1 : Tryz.pinned.checked.prog.inPlace 8 = Rows.fnExactSimulationClassesRow.inPlace := by kernel_rfl
theorem c2 : Tryz.pinned.checked.prog.unfollowed 8 = Rows.fnExactSimulationClassesRow.unfollowed := by kernel_rfl
theorem c3 : Tryz.pinned.checked.prog.recurses 8 = Rows.fnExactSimulationClassesRow.recurses := by kernel_rfl
theorem c4 : Tryz.pinned.checked.prog.varsNamed 8 = Rows.fnExactSimulationClassesRow.named := by kernel_rfl
theorem joined : joinedFacts Tryz.pinned.checked.prog 8 Tryz.f8 Rows.fnExactSimulationClassesSpec Rows.fnExactSimulationClassesRow = true := by
  unfold joinedFacts
  rw [fact_laid, fact_maps, fact_heard, fact_enter, fact_lifts, fact_make, c1, c2, c3, c4]
  kernel_rfl
theorem over : Rows.fnExactSimulationClassesRow.holds Tryz.pinned (OpenSpec.ofChange Rows.fnExactSimulationClassesSpec) :=
  OpenClaim.holds_of_wide 8 Tryz.f8 rfl rfl rfl rfl rfl rfl rfl ⟨rfl, rfl, rfl, rfl, rfl⟩ rfl rfl rfl rfl rfl c0 Tryz.func8 joined
    (of_decide_eq_true (by kernel_rfl)) (by unfold Func.isWrapper; first | (rw [if_pos (by decide +kernel)]; kernel_rfl) | (rw [if_neg (by decide +kernel)]; exact ⟨rfl, rfl⟩))
    (fun os started H enc _ => by
      rw [pre_laid (c := Rows.fnExactSimulationClassesRow) rfl]
      exact lifted os started H enc)

theorem tied : Rows.FnExactSimulationClassesCardSaid :=
  Claim7.holds_tied_plain_at .later [] [.data, .data, .data, .data, .sentinel, .sentinel, .pinned] true (true, "63542e0b55f7575e24d6584ebe0616a336054af639c27f673fc732bb31f9d188") true
    over (fun _ h => by cases h) (by kernel_rfl) (fun _ h => by cases h) fnExactSimulationClasses_row_tie rfl ⟨rfl, rfl⟩ fact_main rfl
    (fun f fn hf hfn => by
      obtain rfl : f = 8 := (Option.some.inj (c0.symm.trans hf)).symm
      obtain rfl : fn = Tryz.f8 := (Option.some.inj (Tryz.func8.symm.trans hfn)).symm
      exact ⟨fact_looks, fun j t ht => by
        rw [Tryz.params8] at ht
        rcases j with _ | j
        · obtain rfl : t = 25 := by simpa using ht.symm
          exact (show Tryz.prog.wantsStandIn 25 = false by kernel_rfl)
        simp at ht⟩)
    c5

end Go.Proofs.YthlaoedpjloloaaGreatDoor.lawSimulationClasses

namespace Go.Proofs.YthlaoedpjloloaaGreatDoor
theorem fnExactSimulationClasses_holds : Rows.FnExactSimulationClassesCardSaid := lawSimulationClasses.tied
end Go.Proofs.YthlaoedpjloloaaGreatDoor
