/-
  Monitors as arguments of a law: words, sizes, copying, comparing. Conditions: sizes.
-/
import Derived.Test.YtiaclddgllkgpaaGreatDoorKindL
namespace Go.Proofs.YtiaclddgllkgpaaGreatDoor
open Go.ChangeShapes Go.WideShapes Go.ChangeAt Go.RowKit Go.Deep
set_option linter.unusedVariables false

theorem szInt64S_b {v : Value} {d : List Int} {left : Int} {w : World} {lo hi : Nat} (h : ArgI w lo hi v d) (h0 : 0 ≤ left) (h1 : left ≤ 1048576) :
    Calls Tryz.prog 56 #[v, .int .i64 left] w fun e w' => e = .returned (.int .i64 (szLeft left d.length)) ∧ Below w.heap.size w w' := by
  obtain ⟨A, n, c, rfl, h2, h3⟩ := h
  have hl := h3.len
  rw [hl]
  exact (szInt64S_calls A n c left w h2 h0 h1).mono fun e w' ⟨a, b⟩ => ⟨a, b ▸ Below.refl _ _⟩
theorem szStringS_b {v : Value} {d : List ByteArray} {left : Int} {w : World} {lo hi : Nat} (h : ArgS w lo hi v d) (h0 : 0 ≤ left) (h1 : left ≤ 1048576) :
    Calls Tryz.prog 34 #[v, .int .i64 left] w fun e w' => e = .returned (.int .i64 (szLeft left (totS d))) ∧ Below w.heap.size w w' := by
  obtain ⟨A, n, c, rfl, h2, h4, h3⟩ := h
  exact szStringS_calls A n c d left w lo hi h3 h2 h4 h0 h1

abbrev DM := DL × List Int
instance decDM : DecidableEq DM := inferInstanceAs (DecidableEq (DL × List Int))
def ArgM (w : World) (lo hi : Nat) (v : Value) (d : DM) : Prop := ∃ (x : CL) (v4 : Value), v = .agg #[.int .i64 x.1, .int .i64 x.2.1, x.2.2.1, x.2.2.2, v4] ∧ ReadL w lo hi x d.1 ∧ ArgI w lo hi v4 d.2
def totM (d : DM) : Nat := totL d.1 + d.2.length
def FreshM (w : World) (lo hi : Nat) (v : Value) (d : DM) : Prop := ArgM w lo hi v d ∧ totM d ≤ 1048576
section
variable {w w' : World} {lo hi lo' hi' B : Nat} {v : Value} {d : DM}
theorem ArgM.below (h : ArgM w lo hi v d) (hb : Below B w w') (hB : hi ≤ B ∨ w.heap.size ≤ B) : ArgM w' lo hi v d := by
  obtain ⟨x, v4, e, h1, a0⟩ := h
  exact ⟨x, v4, e, h1.below hb hB, a0.below hb hB⟩
theorem FreshM.below (h : FreshM w lo hi v d) (hb : Below B w w') (hB : hi ≤ B ∨ w.heap.size ≤ B) : FreshM w' lo hi v d := ⟨h.1.below hb hB, h.2⟩
end

set_option maxHeartbeats 1600000 in
set_option maxRecDepth 100000 in
theorem szMonitor_u {v : Value} {d : DM} {left : Int} {w : World} {lo hi : Nat} (h : ArgM w lo hi v d) (h0 : 0 ≤ left) (h1 : left ≤ 1048576) :
    Calls Tryz.prog 14 #[v, .int .i64 left] w fun e w' => e = .returned (.int .i64 (szLeft left (totM d))) ∧ Below w.heap.size w w' := by
  obtain ⟨⟨s0, s1, v2, v3⟩, v4, rfl, hL, a0⟩ := h
  dsimp only at *
  have hb0 : Below w.heap.size w (w.alloc (.cells #[.int .i64 s0, .int .i64 s1, v2, v3, v4] 28)) := (Below.refl _ _).alloc (Nat.le_refl _) _
  have k0 := heap_alloc_new w (.cells #[.int .i64 s0, .int .i64 s1, v2, v3, v4] 28)
  have hz : w.heap.size < (w.alloc (.cells #[.int .i64 s0, .int .i64 s1, v2, v3, v4] 28)).heap.size := by rw [World.size_alloc]; omega
  have qL := szLts_b (left := left) (hL.below hb0 (.inr (Nat.le_refl _))) h0 h1
  dsimp only at qL
  have q0 := fun (L : Int) (hL0 : 0 ≤ L) (hL1 : L ≤ 1048576) (W : World) (hW : Below w.heap.size w W) => szInt64S_b (left := L) (a0.below hW (.inr (Nat.le_refl _))) hL0 hL1
  clear a0 hL
  have ht : Hid (totM d = totL d.1 + d.2.length) := rfl
  generalize totL d.1 = T0 at *
  generalize d.2.length = T1 at *
  generalize totM d = TT at *
  by_cases b0 : left < (T0 : Int)
  · rw [szLeft_big b0] at qL
    replace qL := hide qL
    have hv : Hid (szLeft left TT = -1) := by show _ = _; exact szLeft_big (by rw [ht.out]; omega)
    clear q0 b0 ht
    go_enter Tryz.func14, Tryz.ntmps14
    go_wp2_with fail
    refine qL.out.mono ?_
    rintro e w1 ⟨rfl, hb1⟩
    replace k0 := (hb1.block _ hz).trans k0
    replace hb0 := hb0.trans (hb1.mono hb0.size)
    replace hz := Nat.lt_of_lt_of_le hz hb1.size
    clear hb1
    have c0 : w1.cell? ⟨w.heap.size, 0, none⟩ = some (.int .i64 s0) := (cell_of_row _ _ 0 _ _ (0, 0) k0).trans rfl
    have c1 : w1.cell? ⟨w.heap.size, 1, none⟩ = some (.int .i64 s1) := (cell_of_row _ _ 1 _ _ (0, 0) k0).trans rfl
    have c2 : w1.cell? ⟨w.heap.size, 2, none⟩ = some (v2) := (cell_of_row _ _ 2 _ _ (0, 0) k0).trans rfl
    have c3 : w1.cell? ⟨w.heap.size, 3, none⟩ = some (v3) := (cell_of_row _ _ 3 _ _ (0, 0) k0).trans rfl
    have c4 : w1.cell? ⟨w.heap.size, 4, none⟩ = some (v4) := (cell_of_row _ _ 4 _ _ (0, 0) k0).trans rfl
    replace hb0 := hide hb0
    clear k0 hz
    go_wp2_with fail
    go_ret
    exact ⟨ret_i hv.out, hb0.out⟩
  rw [szLeft_fits b0] at qL
  replace qL := hide qL
  have r0 : ¬ left - (T0 : Int) < 0 := by omega
  replace q0 := q0 (left - (T0 : Int)) (by omega) (by omega)
  by_cases b1 : left - (T0 : Int) < (T1 : Int)
  · simp only [szLeft_big b1] at q0
    replace q0 := hide q0
    have hv : Hid (szLeft left TT = -1) := by show _ = _; exact szLeft_big (by rw [ht.out]; omega)
    clear ht b0 b1 
    go_enter Tryz.func14, Tryz.ntmps14
    go_wp2_with fail
    refine qL.out.mono ?_
    rintro e w1 ⟨rfl, hb1⟩
    replace k0 := (hb1.block _ hz).trans k0
    replace hb0 := hb0.trans (hb1.mono hb0.size)
    replace hz := Nat.lt_of_lt_of_le hz hb1.size
    clear hb1
    have c0 : w1.cell? ⟨w.heap.size, 0, none⟩ = some (.int .i64 s0) := (cell_of_row _ _ 0 _ _ (0, 0) k0).trans rfl
    have c1 : w1.cell? ⟨w.heap.size, 1, none⟩ = some (.int .i64 s1) := (cell_of_row _ _ 1 _ _ (0, 0) k0).trans rfl
    have c2 : w1.cell? ⟨w.heap.size, 2, none⟩ = some (v2) := (cell_of_row _ _ 2 _ _ (0, 0) k0).trans rfl
    have c3 : w1.cell? ⟨w.heap.size, 3, none⟩ = some (v3) := (cell_of_row _ _ 3 _ _ (0, 0) k0).trans rfl
    have c4 : w1.cell? ⟨w.heap.size, 4, none⟩ = some (v4) := (cell_of_row _ _ 4 _ _ (0, 0) k0).trans rfl
    go_wp2_with fail
    refine (q0.out _ hb0).mono ?_
    rintro e w2 ⟨rfl, hb1⟩
    clear c0 c1 c2 c3 c4
    replace k0 := (hb1.block _ hz).trans k0
    replace hb0 := hb0.trans (hb1.mono hb0.size)
    replace hz := Nat.lt_of_lt_of_le hz hb1.size
    clear hb1
    have c0 : w2.cell? ⟨w.heap.size, 0, none⟩ = some (.int .i64 s0) := (cell_of_row _ _ 0 _ _ (0, 0) k0).trans rfl
    have c1 : w2.cell? ⟨w.heap.size, 1, none⟩ = some (.int .i64 s1) := (cell_of_row _ _ 1 _ _ (0, 0) k0).trans rfl
    have c2 : w2.cell? ⟨w.heap.size, 2, none⟩ = some (v2) := (cell_of_row _ _ 2 _ _ (0, 0) k0).trans rfl
    have c3 : w2.cell? ⟨w.heap.size, 3, none⟩ = some (v3) := (cell_of_row _ _ 3 _ _ (0, 0) k0).trans rfl
    have c4 : w2.cell? ⟨w.heap.size, 4, none⟩ = some (v4) := (cell_of_row _ _ 4 _ _ (0, 0) k0).trans rfl
    replace hb0 := hide hb0
    clear k0 hz
    go_wp2_with fail
    go_ret
    exact ⟨ret_i hv.out, hb0.out⟩
  simp only [szLeft_fits b1] at q0
  replace q0 := hide q0
  have r1 : ¬ left - (T0 : Int) - (T1 : Int) < 0 := by omega
  have hv : Hid (szLeft left TT = left - (T0 : Int) - (T1 : Int)) := by show _ = _; rw [szLeft_fits (by rw [ht.out]; omega), ht.out]; omega
  clear ht b0 b1
  go_enter Tryz.func14, Tryz.ntmps14
  go_wp2_with fail
  refine qL.out.mono ?_
  rintro e w1 ⟨rfl, hb1⟩
  replace k0 := (hb1.block _ hz).trans k0
  replace hb0 := hb0.trans (hb1.mono hb0.size)
  replace hz := Nat.lt_of_lt_of_le hz hb1.size
  clear hb1
  have c0 : w1.cell? ⟨w.heap.size, 0, none⟩ = some (.int .i64 s0) := (cell_of_row _ _ 0 _ _ (0, 0) k0).trans rfl
  have c1 : w1.cell? ⟨w.heap.size, 1, none⟩ = some (.int .i64 s1) := (cell_of_row _ _ 1 _ _ (0, 0) k0).trans rfl
  have c2 : w1.cell? ⟨w.heap.size, 2, none⟩ = some (v2) := (cell_of_row _ _ 2 _ _ (0, 0) k0).trans rfl
  have c3 : w1.cell? ⟨w.heap.size, 3, none⟩ = some (v3) := (cell_of_row _ _ 3 _ _ (0, 0) k0).trans rfl
  have c4 : w1.cell? ⟨w.heap.size, 4, none⟩ = some (v4) := (cell_of_row _ _ 4 _ _ (0, 0) k0).trans rfl
  go_wp2_with fail
  refine (q0.out _ hb0).mono ?_
  rintro e w2 ⟨rfl, hb1⟩
  clear c0 c1 c2 c3 c4
  replace k0 := (hb1.block _ hz).trans k0
  replace hb0 := hb0.trans (hb1.mono hb0.size)
  replace hz := Nat.lt_of_lt_of_le hz hb1.size
  clear hb1
  have c0 : w2.cell? ⟨w.heap.size, 0, none⟩ = some (.int .i64 s0) := (cell_of_row _ _ 0 _ _ (0, 0) k0).trans rfl
  have c1 : w2.cell? ⟨w.heap.size, 1, none⟩ = some (.int .i64 s1) := (cell_of_row _ _ 1 _ _ (0, 0) k0).trans rfl
  have c2 : w2.cell? ⟨w.heap.size, 2, none⟩ = some (v2) := (cell_of_row _ _ 2 _ _ (0, 0) k0).trans rfl
  have c3 : w2.cell? ⟨w.heap.size, 3, none⟩ = some (v3) := (cell_of_row _ _ 3 _ _ (0, 0) k0).trans rfl
  have c4 : w2.cell? ⟨w.heap.size, 4, none⟩ = some (v4) := (cell_of_row _ _ 4 _ _ (0, 0) k0).trans rfl
  replace hb0 := hide hb0
  clear k0 hz
  go_wp2_with fail
  go_ret
  exact ⟨ret_i hv.out, hb0.out⟩

set_option maxHeartbeats 3200000 in
set_option maxRecDepth 100000 in
theorem toMonitor_u {v : Value} {d : DM} {w : World} {lo hi : Nat} (h : ArgM w lo hi v d) (ht : totM d ≤ 1048576) :
    Calls Tryz.prog 16 #[v] w fun e w' => ∃ v', e = .returned v' ∧ FreshM w' w.heap.size w'.heap.size v' d ∧ Below w.heap.size w w' := by
  have htt := hide ht
  obtain ⟨⟨s0, s1, v2, v3⟩, v4, rfl, hL, a0⟩ := h
  dsimp only at *
  simp only [totM, totL, totS] at ht
  have qL := hide (fun W (hW : Below w.heap.size w W) => toLts_a (hL.below hW (.inr (Nat.le_refl _))) (by simp only [totL, totS]; omega))
  dsimp only at qL
  have q0 := hide (fun W (hW : Below w.heap.size w W) => toInt64S_a (a0.below hW (.inr (Nat.le_refl _))) (by omega))
  clear a0 hL ht
  have k0 : (((w.alloc (.cells #[.int .i64 s0, .int .i64 s1, v2, v3, v4] 28)).alloc (.cells #[.int .i64 0, .int .i64 0, .slice none 0 0, .slice none 0 0, .slice none 0 0] 35)).alloc (.cells #[.int .i64 0, .int .i64 0, .slice none 0 0, .slice none 0 0, .slice none 0 0] 35)).heap[w.heap.size]? = some (.cells #[.int .i64 s0, .int .i64 s1, v2, v3, v4] 28 (0, 0)) := (Below.heap_alloc _ _ _ (by simp only [World.size_alloc]; omega)).trans ((Below.heap_alloc _ _ _ (by simp only [World.size_alloc]; omega)).trans (heap_alloc_new w _))
  have k1 : (((w.alloc (.cells #[.int .i64 s0, .int .i64 s1, v2, v3, v4] 28)).alloc (.cells #[.int .i64 0, .int .i64 0, .slice none 0 0, .slice none 0 0, .slice none 0 0] 35)).alloc (.cells #[.int .i64 0, .int .i64 0, .slice none 0 0, .slice none 0 0, .slice none 0 0] 35)).heap[w.heap.size + 1]? = some (.cells #[.int .i64 0, .int .i64 0, .slice none 0 0, .slice none 0 0, .slice none 0 0] 35 (0, 0)) := by have h := heap_alloc_new (w.alloc (.cells #[.int .i64 s0, .int .i64 s1, v2, v3, v4] 28)) (.cells #[.int .i64 0, .int .i64 0, .slice none 0 0, .slice none 0 0, .slice none 0 0] 35); rw [World.size_alloc] at h; exact (Below.heap_alloc _ _ _ (by simp only [World.size_alloc]; omega)).trans h
  have k2 : (((w.alloc (.cells #[.int .i64 s0, .int .i64 s1, v2, v3, v4] 28)).alloc (.cells #[.int .i64 0, .int .i64 0, .slice none 0 0, .slice none 0 0, .slice none 0 0] 35)).alloc (.cells #[.int .i64 0, .int .i64 0, .slice none 0 0, .slice none 0 0, .slice none 0 0] 35)).heap[w.heap.size + 1 + 1]? = some (.cells #[.int .i64 0, .int .i64 0, .slice none 0 0, .slice none 0 0, .slice none 0 0] 35 (0, 0)) := by have h := heap_alloc_new ((w.alloc (.cells #[.int .i64 s0, .int .i64 s1, v2, v3, v4] 28)).alloc (.cells #[.int .i64 0, .int .i64 0, .slice none 0 0, .slice none 0 0, .slice none 0 0] 35)) (.cells #[.int .i64 0, .int .i64 0, .slice none 0 0, .slice none 0 0, .slice none 0 0] 35); rw [World.size_alloc, World.size_alloc] at h; exact h
  have hb : Below w.heap.size w (((w.alloc (.cells #[.int .i64 s0, .int .i64 s1, v2, v3, v4] 28)).alloc (.cells #[.int .i64 0, .int .i64 0, .slice none 0 0, .slice none 0 0, .slice none 0 0] 35)).alloc (.cells #[.int .i64 0, .int .i64 0, .slice none 0 0, .slice none 0 0, .slice none 0 0] 35)) := (((Below.refl _ _).alloc (Nat.le_refl _) _).alloc (by simp only [World.size_alloc]; omega) _).alloc (by simp only [World.size_alloc]; omega) _
  have hz : w.heap.size + 1 + 1 < (((w.alloc (.cells #[.int .i64 s0, .int .i64 s1, v2, v3, v4] 28)).alloc (.cells #[.int .i64 0, .int .i64 0, .slice none 0 0, .slice none 0 0, .slice none 0 0] 35)).alloc (.cells #[.int .i64 0, .int .i64 0, .slice none 0 0, .slice none 0 0, .slice none 0 0] 35)).heap.size := by simp only [World.size_alloc]; omega
  go_enter Tryz.func16, Tryz.ntmps16
  go_wp2_with fail
  generalize (((w.alloc (.cells #[.int .i64 s0, .int .i64 s1, v2, v3, v4] 28)).alloc (.cells #[.int .i64 0, .int .i64 0, .slice none 0 0, .slice none 0 0, .slice none 0 0] 35)).alloc (.cells #[.int .i64 0, .int .i64 0, .slice none 0 0, .slice none 0 0, .slice none 0 0] 35)) = W at *
  refine (qL.out _ hb).mono ?_
  rintro e w1 ⟨⟨y0, y1, y2, y3⟩, rfl, gL, hb1⟩
  dsimp only at *
  obtain ⟨A2, n2, c2, e2⟩ := gL.2.2.1.shape
  obtain ⟨A3, n3, c3, e3⟩ := gL.2.2.2.shape
  dsimp only at e2 e3
  subst e2 e3
  replace k0 := (hb1.block _ (by omega)).trans k0
  replace k1 := (hb1.block _ (by omega)).trans k1
  replace k2 := (hb1.block _ (by omega)).trans k2
  have hz1 := hb1.size
  try simp only [World.size_setCell] at hz1
  replace gL := gL.more (lo' := w.heap.size + 1 + 1 + 1) (hi' := w1.heap.size) hz (Nat.le_refl _)
  replace hb := hb.trans (hb1.mono hb.size)
  replace hz := Nat.lt_of_lt_of_le hz hb1.size
  clear hz1 hb1
  have a0 : w1.cell? ⟨w.heap.size, 0, none⟩ = some (.int .i64 s0) := (cell_of_row _ _ 0 _ _ (0, 0) k0).trans rfl
  have b0 : w1.cell? ⟨w.heap.size + 1 + 1, 0, none⟩ = some (.int .i64 0) := (cell_of_row _ _ 0 _ _ (0, 0) k2).trans rfl
  have f0 := frozen_of_row _ _ 0 _ _ k2
  have r0 : w1.cell? ⟨w.heap.size + 1, 0, none⟩ = some (.int .i64 0) := (cell_of_row _ _ 0 _ _ (0, 0) k1).trans rfl
  have s0' := frozen_of_row _ _ 0 _ _ k1
  have a1 : w1.cell? ⟨w.heap.size, 1, none⟩ = some (.int .i64 s1) := (cell_of_row _ _ 1 _ _ (0, 0) k0).trans rfl
  have b1 : w1.cell? ⟨w.heap.size + 1 + 1, 1, none⟩ = some (.int .i64 0) := (cell_of_row _ _ 1 _ _ (0, 0) k2).trans rfl
  have f1 := frozen_of_row _ _ 1 _ _ k2
  have r1 : w1.cell? ⟨w.heap.size + 1, 1, none⟩ = some (.int .i64 0) := (cell_of_row _ _ 1 _ _ (0, 0) k1).trans rfl
  have s1' := frozen_of_row _ _ 1 _ _ k1
  have a2 : w1.cell? ⟨w.heap.size, 2, none⟩ = some (v2) := (cell_of_row _ _ 2 _ _ (0, 0) k0).trans rfl
  have b2 : w1.cell? ⟨w.heap.size + 1 + 1, 2, none⟩ = some (.slice none 0 0) := (cell_of_row _ _ 2 _ _ (0, 0) k2).trans rfl
  have f2 := frozen_of_row _ _ 2 _ _ k2
  have r2 : w1.cell? ⟨w.heap.size + 1, 2, none⟩ = some (.slice none 0 0) := (cell_of_row _ _ 2 _ _ (0, 0) k1).trans rfl
  have s2' := frozen_of_row _ _ 2 _ _ k1
  have a3 : w1.cell? ⟨w.heap.size, 3, none⟩ = some (v3) := (cell_of_row _ _ 3 _ _ (0, 0) k0).trans rfl
  have b3 : w1.cell? ⟨w.heap.size + 1 + 1, 3, none⟩ = some (.slice none 0 0) := (cell_of_row _ _ 3 _ _ (0, 0) k2).trans rfl
  have f3 := frozen_of_row _ _ 3 _ _ k2
  have r3 : w1.cell? ⟨w.heap.size + 1, 3, none⟩ = some (.slice none 0 0) := (cell_of_row _ _ 3 _ _ (0, 0) k1).trans rfl
  have s3' := frozen_of_row _ _ 3 _ _ k1
  have a4 : w1.cell? ⟨w.heap.size, 4, none⟩ = some (v4) := (cell_of_row _ _ 4 _ _ (0, 0) k0).trans rfl
  have b4 : w1.cell? ⟨w.heap.size + 1 + 1, 4, none⟩ = some (.slice none 0 0) := (cell_of_row _ _ 4 _ _ (0, 0) k2).trans rfl
  have f4 := frozen_of_row _ _ 4 _ _ k2
  have r4 : w1.cell? ⟨w.heap.size + 1, 4, none⟩ = some (.slice none 0 0) := (cell_of_row _ _ 4 _ _ (0, 0) k1).trans rfl
  have s4' := frozen_of_row _ _ 4 _ _ k1
  go_wp2_with fail
  replace k0 : (w1.setCell ⟨w.heap.size + 1 + 1, 0, none⟩ (.int .i64 y0)).heap[w.heap.size]? = _ := (Below.heap_setCell _ _ _ _ (by show w.heap.size ≠ w.heap.size + 1 + 1; omega)).trans k0
  replace k1 : (w1.setCell ⟨w.heap.size + 1 + 1, 0, none⟩ (.int .i64 y0)).heap[w.heap.size + 1]? = _ := (Below.heap_setCell _ _ _ _ (by show w.heap.size + 1 ≠ w.heap.size + 1 + 1; omega)).trans k1
  replace k2 : (w1.setCell ⟨w.heap.size + 1 + 1, 0, none⟩ (.int .i64 y0)).heap[w.heap.size + 1 + 1]? = some (.cells #[.int .i64 y0, .int .i64 0, .slice none 0 0, .slice none 0 0, .slice none 0 0] 35 (0, 0)) := heap_setCell_same _ _ _ _ _ _ k2
  replace hb : Below w.heap.size w (w1.setCell ⟨w.heap.size + 1 + 1, 0, none⟩ (.int .i64 y0)) := hb.setCell (by show w.heap.size ≤ w.heap.size + 1 + 1; omega) _
  replace hz : w.heap.size + 1 + 1 < (w1.setCell ⟨w.heap.size + 1 + 1, 0, none⟩ (.int .i64 y0)).heap.size := by rw [World.size_setCell]; exact hz
  replace gL := gL.only ((Only.refl (w.heap.size + 1 + 1) (w.heap.size + 1 + 1 + 1) w1).setCell (p := ⟨w.heap.size + 1 + 1, 0, none⟩) (Nat.le_refl _) (Nat.lt_succ_self _) (.int .i64 y0)) (.inr (by omega))
  replace k0 : ((w1.setCell ⟨w.heap.size + 1 + 1, 0, none⟩ (.int .i64 y0)).setCell ⟨w.heap.size + 1 + 1, 1, none⟩ (.int .i64 y1)).heap[w.heap.size]? = _ := (Below.heap_setCell _ _ _ _ (by show w.heap.size ≠ w.heap.size + 1 + 1; omega)).trans k0
  replace k1 : ((w1.setCell ⟨w.heap.size + 1 + 1, 0, none⟩ (.int .i64 y0)).setCell ⟨w.heap.size + 1 + 1, 1, none⟩ (.int .i64 y1)).heap[w.heap.size + 1]? = _ := (Below.heap_setCell _ _ _ _ (by show w.heap.size + 1 ≠ w.heap.size + 1 + 1; omega)).trans k1
  replace k2 : ((w1.setCell ⟨w.heap.size + 1 + 1, 0, none⟩ (.int .i64 y0)).setCell ⟨w.heap.size + 1 + 1, 1, none⟩ (.int .i64 y1)).heap[w.heap.size + 1 + 1]? = some (.cells #[.int .i64 y0, .int .i64 y1, .slice none 0 0, .slice none 0 0, .slice none 0 0] 35 (0, 0)) := heap_setCell_same _ _ _ _ _ _ k2
  replace hb : Below w.heap.size w ((w1.setCell ⟨w.heap.size + 1 + 1, 0, none⟩ (.int .i64 y0)).setCell ⟨w.heap.size + 1 + 1, 1, none⟩ (.int .i64 y1)) := hb.setCell (by show w.heap.size ≤ w.heap.size + 1 + 1; omega) _
  replace hz : w.heap.size + 1 + 1 < ((w1.setCell ⟨w.heap.size + 1 + 1, 0, none⟩ (.int .i64 y0)).setCell ⟨w.heap.size + 1 + 1, 1, none⟩ (.int .i64 y1)).heap.size := by rw [World.size_setCell]; exact hz
  replace gL := gL.only ((Only.refl (w.heap.size + 1 + 1) (w.heap.size + 1 + 1 + 1) (w1.setCell ⟨w.heap.size + 1 + 1, 0, none⟩ (.int .i64 y0))).setCell (p := ⟨w.heap.size + 1 + 1, 1, none⟩) (Nat.le_refl _) (Nat.lt_succ_self _) (.int .i64 y1)) (.inr (by omega))
  replace k0 : (((w1.setCell ⟨w.heap.size + 1 + 1, 0, none⟩ (.int .i64 y0)).setCell ⟨w.heap.size + 1 + 1, 1, none⟩ (.int .i64 y1)).setCell ⟨w.heap.size + 1 + 1, 2, none⟩ (.slice A2 n2 c2)).heap[w.heap.size]? = _ := (Below.heap_setCell _ _ _ _ (by show w.heap.size ≠ w.heap.size + 1 + 1; omega)).trans k0
  replace k1 : (((w1.setCell ⟨w.heap.size + 1 + 1, 0, none⟩ (.int .i64 y0)).setCell ⟨w.heap.size + 1 + 1, 1, none⟩ (.int .i64 y1)).setCell ⟨w.heap.size + 1 + 1, 2, none⟩ (.slice A2 n2 c2)).heap[w.heap.size + 1]? = _ := (Below.heap_setCell _ _ _ _ (by show w.heap.size + 1 ≠ w.heap.size + 1 + 1; omega)).trans k1
  replace k2 : (((w1.setCell ⟨w.heap.size + 1 + 1, 0, none⟩ (.int .i64 y0)).setCell ⟨w.heap.size + 1 + 1, 1, none⟩ (.int .i64 y1)).setCell ⟨w.heap.size + 1 + 1, 2, none⟩ (.slice A2 n2 c2)).heap[w.heap.size + 1 + 1]? = some (.cells #[.int .i64 y0, .int .i64 y1, .slice A2 n2 c2, .slice none 0 0, .slice none 0 0] 35 (0, 0)) := heap_setCell_same _ _ _ _ _ _ k2
  replace hb : Below w.heap.size w (((w1.setCell ⟨w.heap.size + 1 + 1, 0, none⟩ (.int .i64 y0)).setCell ⟨w.heap.size + 1 + 1, 1, none⟩ (.int .i64 y1)).setCell ⟨w.heap.size + 1 + 1, 2, none⟩ (.slice A2 n2 c2)) := hb.setCell (by show w.heap.size ≤ w.heap.size + 1 + 1; omega) _
  replace hz : w.heap.size + 1 + 1 < (((w1.setCell ⟨w.heap.size + 1 + 1, 0, none⟩ (.int .i64 y0)).setCell ⟨w.heap.size + 1 + 1, 1, none⟩ (.int .i64 y1)).setCell ⟨w.heap.size + 1 + 1, 2, none⟩ (.slice A2 n2 c2)).heap.size := by rw [World.size_setCell]; exact hz
  replace gL := gL.only ((Only.refl (w.heap.size + 1 + 1) (w.heap.size + 1 + 1 + 1) ((w1.setCell ⟨w.heap.size + 1 + 1, 0, none⟩ (.int .i64 y0)).setCell ⟨w.heap.size + 1 + 1, 1, none⟩ (.int .i64 y1))).setCell (p := ⟨w.heap.size + 1 + 1, 2, none⟩) (Nat.le_refl _) (Nat.lt_succ_self _) (.slice A2 n2 c2)) (.inr (by omega))
  replace k0 : ((((w1.setCell ⟨w.heap.size + 1 + 1, 0, none⟩ (.int .i64 y0)).setCell ⟨w.heap.size + 1 + 1, 1, none⟩ (.int .i64 y1)).setCell ⟨w.heap.size + 1 + 1, 2, none⟩ (.slice A2 n2 c2)).setCell ⟨w.heap.size + 1 + 1, 3, none⟩ (.slice A3 n3 c3)).heap[w.heap.size]? = _ := (Below.heap_setCell _ _ _ _ (by show w.heap.size ≠ w.heap.size + 1 + 1; omega)).trans k0
  replace k1 : ((((w1.setCell ⟨w.heap.size + 1 + 1, 0, none⟩ (.int .i64 y0)).setCell ⟨w.heap.size + 1 + 1, 1, none⟩ (.int .i64 y1)).setCell ⟨w.heap.size + 1 + 1, 2, none⟩ (.slice A2 n2 c2)).setCell ⟨w.heap.size + 1 + 1, 3, none⟩ (.slice A3 n3 c3)).heap[w.heap.size + 1]? = _ := (Below.heap_setCell _ _ _ _ (by show w.heap.size + 1 ≠ w.heap.size + 1 + 1; omega)).trans k1
  replace k2 : ((((w1.setCell ⟨w.heap.size + 1 + 1, 0, none⟩ (.int .i64 y0)).setCell ⟨w.heap.size + 1 + 1, 1, none⟩ (.int .i64 y1)).setCell ⟨w.heap.size + 1 + 1, 2, none⟩ (.slice A2 n2 c2)).setCell ⟨w.heap.size + 1 + 1, 3, none⟩ (.slice A3 n3 c3)).heap[w.heap.size + 1 + 1]? = some (.cells #[.int .i64 y0, .int .i64 y1, .slice A2 n2 c2, .slice A3 n3 c3, .slice none 0 0] 35 (0, 0)) := heap_setCell_same _ _ _ _ _ _ k2
  replace hb : Below w.heap.size w ((((w1.setCell ⟨w.heap.size + 1 + 1, 0, none⟩ (.int .i64 y0)).setCell ⟨w.heap.size + 1 + 1, 1, none⟩ (.int .i64 y1)).setCell ⟨w.heap.size + 1 + 1, 2, none⟩ (.slice A2 n2 c2)).setCell ⟨w.heap.size + 1 + 1, 3, none⟩ (.slice A3 n3 c3)) := hb.setCell (by show w.heap.size ≤ w.heap.size + 1 + 1; omega) _
  replace hz : w.heap.size + 1 + 1 < ((((w1.setCell ⟨w.heap.size + 1 + 1, 0, none⟩ (.int .i64 y0)).setCell ⟨w.heap.size + 1 + 1, 1, none⟩ (.int .i64 y1)).setCell ⟨w.heap.size + 1 + 1, 2, none⟩ (.slice A2 n2 c2)).setCell ⟨w.heap.size + 1 + 1, 3, none⟩ (.slice A3 n3 c3)).heap.size := by rw [World.size_setCell]; exact hz
  replace gL := gL.only ((Only.refl (w.heap.size + 1 + 1) (w.heap.size + 1 + 1 + 1) (((w1.setCell ⟨w.heap.size + 1 + 1, 0, none⟩ (.int .i64 y0)).setCell ⟨w.heap.size + 1 + 1, 1, none⟩ (.int .i64 y1)).setCell ⟨w.heap.size + 1 + 1, 2, none⟩ (.slice A2 n2 c2))).setCell (p := ⟨w.heap.size + 1 + 1, 3, none⟩) (Nat.le_refl _) (Nat.lt_succ_self _) (.slice A3 n3 c3)) (.inr (by omega))
  refine (q0.out _ hb).mono ?_
  rintro e w2 ⟨u0, rfl, g0, hb1⟩
  clear a0 b0 f0 r0 s0' a1 b1 f1 r1 s1' a2 b2 f2 r2 s2' a3 b3 f3 r3 s3' a4 b4 f4 r4 s4'
  obtain ⟨B0, m0, k0', rfl⟩ := g0.shape
  replace k0 := (hb1.block _ (by omega)).trans k0
  replace k1 := (hb1.block _ (by omega)).trans k1
  replace k2 := (hb1.block _ (by omega)).trans k2
  have hz1 := hb1.size
  try simp only [World.size_setCell] at hz1
  replace gL := (gL.below hb1 (.inr (Nat.le_refl _))).more (lo' := w.heap.size + 1 + 1 + 1) (hi' := w2.heap.size) (Nat.le_refl _) hz1
  replace g0 := g0.more (lo' := w.heap.size + 1 + 1 + 1) (hi' := w2.heap.size) hz (Nat.le_refl _)
  replace hb := hb.trans (hb1.mono hb.size)
  replace hz := Nat.lt_of_lt_of_le hz hb1.size
  clear hz1 hb1
  have a0 : w2.cell? ⟨w.heap.size, 0, none⟩ = some (.int .i64 s0) := (cell_of_row _ _ 0 _ _ (0, 0) k0).trans rfl
  have b0 : w2.cell? ⟨w.heap.size + 1 + 1, 0, none⟩ = some (.int .i64 y0) := (cell_of_row _ _ 0 _ _ (0, 0) k2).trans rfl
  have f0 := frozen_of_row _ _ 0 _ _ k2
  have r0 : w2.cell? ⟨w.heap.size + 1, 0, none⟩ = some (.int .i64 0) := (cell_of_row _ _ 0 _ _ (0, 0) k1).trans rfl
  have s0' := frozen_of_row _ _ 0 _ _ k1
  have a1 : w2.cell? ⟨w.heap.size, 1, none⟩ = some (.int .i64 s1) := (cell_of_row _ _ 1 _ _ (0, 0) k0).trans rfl
  have b1 : w2.cell? ⟨w.heap.size + 1 + 1, 1, none⟩ = some (.int .i64 y1) := (cell_of_row _ _ 1 _ _ (0, 0) k2).trans rfl
  have f1 := frozen_of_row _ _ 1 _ _ k2
  have r1 : w2.cell? ⟨w.heap.size + 1, 1, none⟩ = some (.int .i64 0) := (cell_of_row _ _ 1 _ _ (0, 0) k1).trans rfl
  have s1' := frozen_of_row _ _ 1 _ _ k1
  have a2 : w2.cell? ⟨w.heap.size, 2, none⟩ = some (v2) := (cell_of_row _ _ 2 _ _ (0, 0) k0).trans rfl
  have b2 : w2.cell? ⟨w.heap.size + 1 + 1, 2, none⟩ = some (.slice A2 n2 c2) := (cell_of_row _ _ 2 _ _ (0, 0) k2).trans rfl
  have f2 := frozen_of_row _ _ 2 _ _ k2
  have r2 : w2.cell? ⟨w.heap.size + 1, 2, none⟩ = some (.slice none 0 0) := (cell_of_row _ _ 2 _ _ (0, 0) k1).trans rfl
  have s2' := frozen_of_row _ _ 2 _ _ k1
  have a3 : w2.cell? ⟨w.heap.size, 3, none⟩ = some (v3) := (cell_of_row _ _ 3 _ _ (0, 0) k0).trans rfl
  have b3 : w2.cell? ⟨w.heap.size + 1 + 1, 3, none⟩ = some (.slice A3 n3 c3) := (cell_of_row _ _ 3 _ _ (0, 0) k2).trans rfl
  have f3 := frozen_of_row _ _ 3 _ _ k2
  have r3 : w2.cell? ⟨w.heap.size + 1, 3, none⟩ = some (.slice none 0 0) := (cell_of_row _ _ 3 _ _ (0, 0) k1).trans rfl
  have s3' := frozen_of_row _ _ 3 _ _ k1
  have a4 : w2.cell? ⟨w.heap.size, 4, none⟩ = some (v4) := (cell_of_row _ _ 4 _ _ (0, 0) k0).trans rfl
  have b4 : w2.cell? ⟨w.heap.size + 1 + 1, 4, none⟩ = some (.slice none 0 0) := (cell_of_row _ _ 4 _ _ (0, 0) k2).trans rfl
  have f4 := frozen_of_row _ _ 4 _ _ k2
  have r4 : w2.cell? ⟨w.heap.size + 1, 4, none⟩ = some (.slice none 0 0) := (cell_of_row _ _ 4 _ _ (0, 0) k1).trans rfl
  have s4' := frozen_of_row _ _ 4 _ _ k1
  go_wp2_with fail
  replace k0 : (w2.setCell ⟨w.heap.size + 1 + 1, 4, none⟩ (.slice B0 m0 k0')).heap[w.heap.size]? = _ := (Below.heap_setCell _ _ _ _ (by show w.heap.size ≠ w.heap.size + 1 + 1; omega)).trans k0
  replace k1 : (w2.setCell ⟨w.heap.size + 1 + 1, 4, none⟩ (.slice B0 m0 k0')).heap[w.heap.size + 1]? = _ := (Below.heap_setCell _ _ _ _ (by show w.heap.size + 1 ≠ w.heap.size + 1 + 1; omega)).trans k1
  replace k2 : (w2.setCell ⟨w.heap.size + 1 + 1, 4, none⟩ (.slice B0 m0 k0')).heap[w.heap.size + 1 + 1]? = some (.cells #[.int .i64 y0, .int .i64 y1, .slice A2 n2 c2, .slice A3 n3 c3, .slice B0 m0 k0'] 35 (0, 0)) := heap_setCell_same _ _ _ _ _ _ k2
  replace hb : Below w.heap.size w (w2.setCell ⟨w.heap.size + 1 + 1, 4, none⟩ (.slice B0 m0 k0')) := hb.setCell (by show w.heap.size ≤ w.heap.size + 1 + 1; omega) _
  replace hz : w.heap.size + 1 + 1 < (w2.setCell ⟨w.heap.size + 1 + 1, 4, none⟩ (.slice B0 m0 k0')).heap.size := by rw [World.size_setCell]; exact hz
  replace gL := gL.only ((Only.refl (w.heap.size + 1 + 1) (w.heap.size + 1 + 1 + 1) w2).setCell (p := ⟨w.heap.size + 1 + 1, 4, none⟩) (Nat.le_refl _) (Nat.lt_succ_self _) (.slice B0 m0 k0')) (.inr (by omega))
  replace g0 := g0.only ((Only.refl (w.heap.size + 1 + 1) (w.heap.size + 1 + 1 + 1) w2).setCell (p := ⟨w.heap.size + 1 + 1, 4, none⟩) (Nat.le_refl _) (Nat.lt_succ_self _) (.slice B0 m0 k0')) (.inr (by omega))
  have hbF : Below w.heap.size w ((((((w2.setCell ⟨w.heap.size + 1 + 1, 4, none⟩ (.slice B0 m0 k0')).setCell ⟨w.heap.size + 1, 0, none⟩ (.int .i64 y0)).setCell ⟨w.heap.size + 1, 1, none⟩ (.int .i64 y1)).setCell ⟨w.heap.size + 1, 2, none⟩ (.slice A2 n2 c2)).setCell ⟨w.heap.size + 1, 3, none⟩ (.slice A3 n3 c3)).setCell ⟨w.heap.size + 1, 4, none⟩ (.slice B0 m0 k0')) := (((((hb.setCell (by show w.heap.size ≤ w.heap.size + 1; omega) _).setCell (by show w.heap.size ≤ w.heap.size + 1; omega) _).setCell (by show w.heap.size ≤ w.heap.size + 1; omega) _).setCell (by show w.heap.size ≤ w.heap.size + 1; omega) _).setCell (by show w.heap.size ≤ w.heap.size + 1; omega) _)
  have hoF : Only (w.heap.size + 1) (w.heap.size + 1 + 1) (w2.setCell ⟨w.heap.size + 1 + 1, 4, none⟩ (.slice B0 m0 k0')) ((((((w2.setCell ⟨w.heap.size + 1 + 1, 4, none⟩ (.slice B0 m0 k0')).setCell ⟨w.heap.size + 1, 0, none⟩ (.int .i64 y0)).setCell ⟨w.heap.size + 1, 1, none⟩ (.int .i64 y1)).setCell ⟨w.heap.size + 1, 2, none⟩ (.slice A2 n2 c2)).setCell ⟨w.heap.size + 1, 3, none⟩ (.slice A3 n3 c3)).setCell ⟨w.heap.size + 1, 4, none⟩ (.slice B0 m0 k0')) := ((((((Only.refl (w.heap.size + 1) (w.heap.size + 1 + 1) (w2.setCell ⟨w.heap.size + 1 + 1, 4, none⟩ (.slice B0 m0 k0'))).setCell (p := ⟨w.heap.size + 1, 0, none⟩) (Nat.le_refl _) (Nat.lt_succ_self _) (.int .i64 y0)).setCell (p := ⟨w.heap.size + 1, 1, none⟩) (Nat.le_refl _) (Nat.lt_succ_self _) (.int .i64 y1)).setCell (p := ⟨w.heap.size + 1, 2, none⟩) (Nat.le_refl _) (Nat.lt_succ_self _) (.slice A2 n2 c2)).setCell (p := ⟨w.heap.size + 1, 3, none⟩) (Nat.le_refl _) (Nat.lt_succ_self _) (.slice A3 n3 c3)).setCell (p := ⟨w.heap.size + 1, 4, none⟩) (Nat.le_refl _) (Nat.lt_succ_self _) (.slice B0 m0 k0'))
  replace gL := (gL.only hoF (.inr (by omega))).more (lo' := w.heap.size) (hi' := ((((((w2.setCell ⟨w.heap.size + 1 + 1, 4, none⟩ (.slice B0 m0 k0')).setCell ⟨w.heap.size + 1, 0, none⟩ (.int .i64 y0)).setCell ⟨w.heap.size + 1, 1, none⟩ (.int .i64 y1)).setCell ⟨w.heap.size + 1, 2, none⟩ (.slice A2 n2 c2)).setCell ⟨w.heap.size + 1, 3, none⟩ (.slice A3 n3 c3)).setCell ⟨w.heap.size + 1, 4, none⟩ (.slice B0 m0 k0')).heap.size) (by omega) (by simp only [World.size_setCell]; exact Nat.le_refl _)
  replace g0 := (g0.only hoF (.inr (by omega))).more (lo' := w.heap.size) (hi' := ((((((w2.setCell ⟨w.heap.size + 1 + 1, 4, none⟩ (.slice B0 m0 k0')).setCell ⟨w.heap.size + 1, 0, none⟩ (.int .i64 y0)).setCell ⟨w.heap.size + 1, 1, none⟩ (.int .i64 y1)).setCell ⟨w.heap.size + 1, 2, none⟩ (.slice A2 n2 c2)).setCell ⟨w.heap.size + 1, 3, none⟩ (.slice A3 n3 c3)).setCell ⟨w.heap.size + 1, 4, none⟩ (.slice B0 m0 k0')).heap.size) (by omega) (by simp only [World.size_setCell]; exact Nat.le_refl _)
  have kF : ((((((w2.setCell ⟨w.heap.size + 1 + 1, 4, none⟩ (.slice B0 m0 k0')).setCell ⟨w.heap.size + 1, 0, none⟩ (.int .i64 y0)).setCell ⟨w.heap.size + 1, 1, none⟩ (.int .i64 y1)).setCell ⟨w.heap.size + 1, 2, none⟩ (.slice A2 n2 c2)).setCell ⟨w.heap.size + 1, 3, none⟩ (.slice A3 n3 c3)).setCell ⟨w.heap.size + 1, 4, none⟩ (.slice B0 m0 k0')).heap[w.heap.size + 1]? = some (.cells #[.int .i64 y0, .int .i64 y1, .slice A2 n2 c2, .slice A3 n3 c3, .slice B0 m0 k0'] 35 (0, 0)) := (heap_setCell_same _ _ _ _ _ _ (heap_setCell_same _ _ _ _ _ _ (heap_setCell_same _ _ _ _ _ _ (heap_setCell_same _ _ _ _ _ _ (heap_setCell_same _ _ _ _ _ _ k1)))))
  clear a0 b0 f0 r0 s0' a1 b1 f1 r1 s1' a2 b2 f2 r2 s2' a3 b3 f3 r3 s3' a4 b4 f4 r4 s4'
  have rF0 : ((((((w2.setCell ⟨w.heap.size + 1 + 1, 4, none⟩ (.slice B0 m0 k0')).setCell ⟨w.heap.size + 1, 0, none⟩ (.int .i64 y0)).setCell ⟨w.heap.size + 1, 1, none⟩ (.int .i64 y1)).setCell ⟨w.heap.size + 1, 2, none⟩ (.slice A2 n2 c2)).setCell ⟨w.heap.size + 1, 3, none⟩ (.slice A3 n3 c3)).setCell ⟨w.heap.size + 1, 4, none⟩ (.slice B0 m0 k0')).cell? ⟨w.heap.size + 1, 0, none⟩ = some (.int .i64 y0) := (cell_of_row _ _ 0 _ _ (0, 0) kF).trans rfl
  have rF1 : ((((((w2.setCell ⟨w.heap.size + 1 + 1, 4, none⟩ (.slice B0 m0 k0')).setCell ⟨w.heap.size + 1, 0, none⟩ (.int .i64 y0)).setCell ⟨w.heap.size + 1, 1, none⟩ (.int .i64 y1)).setCell ⟨w.heap.size + 1, 2, none⟩ (.slice A2 n2 c2)).setCell ⟨w.heap.size + 1, 3, none⟩ (.slice A3 n3 c3)).setCell ⟨w.heap.size + 1, 4, none⟩ (.slice B0 m0 k0')).cell? ⟨w.heap.size + 1, 1, none⟩ = some (.int .i64 y1) := (cell_of_row _ _ 1 _ _ (0, 0) kF).trans rfl
  have rF2 : ((((((w2.setCell ⟨w.heap.size + 1 + 1, 4, none⟩ (.slice B0 m0 k0')).setCell ⟨w.heap.size + 1, 0, none⟩ (.int .i64 y0)).setCell ⟨w.heap.size + 1, 1, none⟩ (.int .i64 y1)).setCell ⟨w.heap.size + 1, 2, none⟩ (.slice A2 n2 c2)).setCell ⟨w.heap.size + 1, 3, none⟩ (.slice A3 n3 c3)).setCell ⟨w.heap.size + 1, 4, none⟩ (.slice B0 m0 k0')).cell? ⟨w.heap.size + 1, 2, none⟩ = some (.slice A2 n2 c2) := (cell_of_row _ _ 2 _ _ (0, 0) kF).trans rfl
  have rF3 : ((((((w2.setCell ⟨w.heap.size + 1 + 1, 4, none⟩ (.slice B0 m0 k0')).setCell ⟨w.heap.size + 1, 0, none⟩ (.int .i64 y0)).setCell ⟨w.heap.size + 1, 1, none⟩ (.int .i64 y1)).setCell ⟨w.heap.size + 1, 2, none⟩ (.slice A2 n2 c2)).setCell ⟨w.heap.size + 1, 3, none⟩ (.slice A3 n3 c3)).setCell ⟨w.heap.size + 1, 4, none⟩ (.slice B0 m0 k0')).cell? ⟨w.heap.size + 1, 3, none⟩ = some (.slice A3 n3 c3) := (cell_of_row _ _ 3 _ _ (0, 0) kF).trans rfl
  have rF4 : ((((((w2.setCell ⟨w.heap.size + 1 + 1, 4, none⟩ (.slice B0 m0 k0')).setCell ⟨w.heap.size + 1, 0, none⟩ (.int .i64 y0)).setCell ⟨w.heap.size + 1, 1, none⟩ (.int .i64 y1)).setCell ⟨w.heap.size + 1, 2, none⟩ (.slice A2 n2 c2)).setCell ⟨w.heap.size + 1, 3, none⟩ (.slice A3 n3 c3)).setCell ⟨w.heap.size + 1, 4, none⟩ (.slice B0 m0 k0')).cell? ⟨w.heap.size + 1, 4, none⟩ = some (.slice B0 m0 k0') := (cell_of_row _ _ 4 _ _ (0, 0) kF).trans rfl
  clear hoF hb hz k0 k1 k2 kF qL q0
  generalize ((((((w2.setCell ⟨w.heap.size + 1 + 1, 4, none⟩ (.slice B0 m0 k0')).setCell ⟨w.heap.size + 1, 0, none⟩ (.int .i64 y0)).setCell ⟨w.heap.size + 1, 1, none⟩ (.int .i64 y1)).setCell ⟨w.heap.size + 1, 2, none⟩ (.slice A2 n2 c2)).setCell ⟨w.heap.size + 1, 3, none⟩ (.slice A3 n3 c3)).setCell ⟨w.heap.size + 1, 4, none⟩ (.slice B0 m0 k0')) = WF at *
  refine bodyPost_ret (by simp [results, Tryz.results16, go_sem, rF0, rF1, rF2, rF3, rF4]; try rfl) rfl ?_
  exact ⟨_, rfl, ⟨⟨(y0, y1, .slice A2 n2 c2, .slice A3 n3 c3), _, rfl, gL, g0⟩, htt.out⟩, hbF⟩

set_option maxHeartbeats 1600000 in
set_option maxRecDepth 100000 in
theorem eqMonitor_u {v u : Value} {d e : DM} {w : World} {lo hi lo' hi' : Nat} (h : FreshM w lo hi v d) (g : FreshM w lo' hi' u e) :
    Calls Tryz.prog 18 #[v, u] w fun r w' => r = .returned (.bool (decide (d = e))) ∧ Below w.heap.size w w' := by
  obtain ⟨⟨⟨s0, s1, v2, v3⟩, v4, rfl, hL, a0⟩, ht⟩ := h
  obtain ⟨⟨⟨t0, t1, y2, y3⟩, y4, rfl, gL, g0⟩, gt⟩ := g
  dsimp only at *
  simp only [totM, totL, totS] at ht gt
  have k0 : ((w.alloc (.cells #[.int .i64 s0, .int .i64 s1, v2, v3, v4] 35)).alloc (.cells #[.int .i64 t0, .int .i64 t1, y2, y3, y4] 35)).heap[w.heap.size]? = some (.cells #[.int .i64 s0, .int .i64 s1, v2, v3, v4] 35 (0, 0)) := (Below.heap_alloc _ _ _ (by simp only [World.size_alloc]; omega)).trans (heap_alloc_new w _)
  have k1 : ((w.alloc (.cells #[.int .i64 s0, .int .i64 s1, v2, v3, v4] 35)).alloc (.cells #[.int .i64 t0, .int .i64 t1, y2, y3, y4] 35)).heap[w.heap.size + 1]? = some (.cells #[.int .i64 t0, .int .i64 t1, y2, y3, y4] 35 (0, 0)) := by have h := heap_alloc_new (w.alloc (.cells #[.int .i64 s0, .int .i64 s1, v2, v3, v4] 35)) (.cells #[.int .i64 t0, .int .i64 t1, y2, y3, y4] 35); rw [World.size_alloc] at h; exact h
  have hb : Below w.heap.size w ((w.alloc (.cells #[.int .i64 s0, .int .i64 s1, v2, v3, v4] 35)).alloc (.cells #[.int .i64 t0, .int .i64 t1, y2, y3, y4] 35)) := ((Below.refl _ _).alloc (Nat.le_refl _) _).alloc (by simp only [World.size_alloc]; omega) _
  have hz : w.heap.size + 1 < ((w.alloc (.cells #[.int .i64 s0, .int .i64 s1, v2, v3, v4] 35)).alloc (.cells #[.int .i64 t0, .int .i64 t1, y2, y3, y4] 35)).heap.size := by simp only [World.size_alloc]; omega
  have qL := fun W (hW : Below w.heap.size w W) => eqLts_a (hL.below hW (.inr (Nat.le_refl _))) (gL.below hW (.inr (Nat.le_refl _))) (by simp only [totL, totS]; omega) (by simp only [totL, totS]; omega)
  dsimp only at qL
  have q0 := fun W (hW : Below w.heap.size w W) => eqInt64S_a (a0.below hW (.inr (Nat.le_refl _))) (g0.below hW (.inr (Nat.le_refl _))) (by omega) (by omega)
  clear a0 g0 hL gL ht gt
  have hde : Hid (decide (d = e) = (decide (d.1 = e.1) && decide (d.2 = e.2))) := by
    show _ = _
    obtain ⟨d1, d2⟩ := d; obtain ⟨e1, e2⟩ := e
    rw [Bool.eq_iff_iff]; simp [Prod.mk.injEq]
  generalize decide (d.1 = e.1) = C0 at *
  generalize decide (d.2 = e.2) = C1 at *
  generalize decide (d = e) = CC at *
  cases C0 with
  | false =>
    replace qL := hide qL
    clear q0
    replace hde : Hid (CC = false) := by show _ = _; first | (rw [hde.out]; rfl) | rw [hde.out]
    go_enter Tryz.func18, Tryz.ntmps18
    go_wp2_with fail
    refine (qL.out _ hb).mono ?_
    rintro r w1 ⟨rfl, hb1⟩
    replace k0 := (hb1.block _ (by omega)).trans k0
    replace k1 := (hb1.block _ (by omega)).trans k1
    replace hb := hb.trans (hb1.mono hb.size)
    replace hz := Nat.lt_of_lt_of_le hz hb1.size
    clear hb1
    have a0 : w1.cell? ⟨w.heap.size, 0, none⟩ = some (.int .i64 s0) := (cell_of_row _ _ 0 _ _ (0, 0) k0).trans rfl
    have b0 : w1.cell? ⟨w.heap.size + 1, 0, none⟩ = some (.int .i64 t0) := (cell_of_row _ _ 0 _ _ (0, 0) k1).trans rfl
    have a1 : w1.cell? ⟨w.heap.size, 1, none⟩ = some (.int .i64 s1) := (cell_of_row _ _ 1 _ _ (0, 0) k0).trans rfl
    have b1 : w1.cell? ⟨w.heap.size + 1, 1, none⟩ = some (.int .i64 t1) := (cell_of_row _ _ 1 _ _ (0, 0) k1).trans rfl
    have a2 : w1.cell? ⟨w.heap.size, 2, none⟩ = some (v2) := (cell_of_row _ _ 2 _ _ (0, 0) k0).trans rfl
    have b2 : w1.cell? ⟨w.heap.size + 1, 2, none⟩ = some (y2) := (cell_of_row _ _ 2 _ _ (0, 0) k1).trans rfl
    have a3 : w1.cell? ⟨w.heap.size, 3, none⟩ = some (v3) := (cell_of_row _ _ 3 _ _ (0, 0) k0).trans rfl
    have b3 : w1.cell? ⟨w.heap.size + 1, 3, none⟩ = some (y3) := (cell_of_row _ _ 3 _ _ (0, 0) k1).trans rfl
    have a4 : w1.cell? ⟨w.heap.size, 4, none⟩ = some (v4) := (cell_of_row _ _ 4 _ _ (0, 0) k0).trans rfl
    have b4 : w1.cell? ⟨w.heap.size + 1, 4, none⟩ = some (y4) := (cell_of_row _ _ 4 _ _ (0, 0) k1).trans rfl
    clear k0 k1 hz
    replace hb := hide hb
    go_wp2_with fail
    go_ret
    exact ⟨ret_b (by first | (rw [hde.out]; rfl) | rw [hde.out]), hb.out⟩
  | true =>
  replace qL := hide qL
  cases C1 with
  | false =>
    replace q0 := hide q0
    go_enter Tryz.func18, Tryz.ntmps18
    go_wp2_with fail
    refine (qL.out _ hb).mono ?_
    rintro r w1 ⟨rfl, hb1⟩
    replace k0 := (hb1.block _ (by omega)).trans k0
    replace k1 := (hb1.block _ (by omega)).trans k1
    replace hb := hb.trans (hb1.mono hb.size)
    replace hz := Nat.lt_of_lt_of_le hz hb1.size
    clear hb1
    have a0 : w1.cell? ⟨w.heap.size, 0, none⟩ = some (.int .i64 s0) := (cell_of_row _ _ 0 _ _ (0, 0) k0).trans rfl
    have b0 : w1.cell? ⟨w.heap.size + 1, 0, none⟩ = some (.int .i64 t0) := (cell_of_row _ _ 0 _ _ (0, 0) k1).trans rfl
    have a1 : w1.cell? ⟨w.heap.size, 1, none⟩ = some (.int .i64 s1) := (cell_of_row _ _ 1 _ _ (0, 0) k0).trans rfl
    have b1 : w1.cell? ⟨w.heap.size + 1, 1, none⟩ = some (.int .i64 t1) := (cell_of_row _ _ 1 _ _ (0, 0) k1).trans rfl
    have a2 : w1.cell? ⟨w.heap.size, 2, none⟩ = some (v2) := (cell_of_row _ _ 2 _ _ (0, 0) k0).trans rfl
    have b2 : w1.cell? ⟨w.heap.size + 1, 2, none⟩ = some (y2) := (cell_of_row _ _ 2 _ _ (0, 0) k1).trans rfl
    have a3 : w1.cell? ⟨w.heap.size, 3, none⟩ = some (v3) := (cell_of_row _ _ 3 _ _ (0, 0) k0).trans rfl
    have b3 : w1.cell? ⟨w.heap.size + 1, 3, none⟩ = some (y3) := (cell_of_row _ _ 3 _ _ (0, 0) k1).trans rfl
    have a4 : w1.cell? ⟨w.heap.size, 4, none⟩ = some (v4) := (cell_of_row _ _ 4 _ _ (0, 0) k0).trans rfl
    have b4 : w1.cell? ⟨w.heap.size + 1, 4, none⟩ = some (y4) := (cell_of_row _ _ 4 _ _ (0, 0) k1).trans rfl
    go_wp2_with fail
    refine (q0.out _ hb).mono ?_
    rintro r w2 ⟨rfl, hb1⟩
    clear a0 b0 a1 b1 a2 b2 a3 b3 a4 b4
    replace k0 := (hb1.block _ (by omega)).trans k0
    replace k1 := (hb1.block _ (by omega)).trans k1
    replace hb := hb.trans (hb1.mono hb.size)
    replace hz := Nat.lt_of_lt_of_le hz hb1.size
    clear hb1
    have a0 : w2.cell? ⟨w.heap.size, 0, none⟩ = some (.int .i64 s0) := (cell_of_row _ _ 0 _ _ (0, 0) k0).trans rfl
    have b0 : w2.cell? ⟨w.heap.size + 1, 0, none⟩ = some (.int .i64 t0) := (cell_of_row _ _ 0 _ _ (0, 0) k1).trans rfl
    have a1 : w2.cell? ⟨w.heap.size, 1, none⟩ = some (.int .i64 s1) := (cell_of_row _ _ 1 _ _ (0, 0) k0).trans rfl
    have b1 : w2.cell? ⟨w.heap.size + 1, 1, none⟩ = some (.int .i64 t1) := (cell_of_row _ _ 1 _ _ (0, 0) k1).trans rfl
    have a2 : w2.cell? ⟨w.heap.size, 2, none⟩ = some (v2) := (cell_of_row _ _ 2 _ _ (0, 0) k0).trans rfl
    have b2 : w2.cell? ⟨w.heap.size + 1, 2, none⟩ = some (y2) := (cell_of_row _ _ 2 _ _ (0, 0) k1).trans rfl
    have a3 : w2.cell? ⟨w.heap.size, 3, none⟩ = some (v3) := (cell_of_row _ _ 3 _ _ (0, 0) k0).trans rfl
    have b3 : w2.cell? ⟨w.heap.size + 1, 3, none⟩ = some (y3) := (cell_of_row _ _ 3 _ _ (0, 0) k1).trans rfl
    have a4 : w2.cell? ⟨w.heap.size, 4, none⟩ = some (v4) := (cell_of_row _ _ 4 _ _ (0, 0) k0).trans rfl
    have b4 : w2.cell? ⟨w.heap.size + 1, 4, none⟩ = some (y4) := (cell_of_row _ _ 4 _ _ (0, 0) k1).trans rfl
    clear k0 k1 hz
    replace hb := hide hb
    go_wp2_with fail
    go_ret
    exact ⟨ret_b (by first | (rw [hde.out]; rfl) | rw [hde.out]), hb.out⟩
  | true =>
  replace q0 := hide q0
  go_enter Tryz.func18, Tryz.ntmps18
  go_wp2_with fail
  refine (qL.out _ hb).mono ?_
  rintro r w1 ⟨rfl, hb1⟩
  replace k0 := (hb1.block _ (by omega)).trans k0
  replace k1 := (hb1.block _ (by omega)).trans k1
  replace hb := hb.trans (hb1.mono hb.size)
  replace hz := Nat.lt_of_lt_of_le hz hb1.size
  clear hb1
  have a0 : w1.cell? ⟨w.heap.size, 0, none⟩ = some (.int .i64 s0) := (cell_of_row _ _ 0 _ _ (0, 0) k0).trans rfl
  have b0 : w1.cell? ⟨w.heap.size + 1, 0, none⟩ = some (.int .i64 t0) := (cell_of_row _ _ 0 _ _ (0, 0) k1).trans rfl
  have a1 : w1.cell? ⟨w.heap.size, 1, none⟩ = some (.int .i64 s1) := (cell_of_row _ _ 1 _ _ (0, 0) k0).trans rfl
  have b1 : w1.cell? ⟨w.heap.size + 1, 1, none⟩ = some (.int .i64 t1) := (cell_of_row _ _ 1 _ _ (0, 0) k1).trans rfl
  have a2 : w1.cell? ⟨w.heap.size, 2, none⟩ = some (v2) := (cell_of_row _ _ 2 _ _ (0, 0) k0).trans rfl
  have b2 : w1.cell? ⟨w.heap.size + 1, 2, none⟩ = some (y2) := (cell_of_row _ _ 2 _ _ (0, 0) k1).trans rfl
  have a3 : w1.cell? ⟨w.heap.size, 3, none⟩ = some (v3) := (cell_of_row _ _ 3 _ _ (0, 0) k0).trans rfl
  have b3 : w1.cell? ⟨w.heap.size + 1, 3, none⟩ = some (y3) := (cell_of_row _ _ 3 _ _ (0, 0) k1).trans rfl
  have a4 : w1.cell? ⟨w.heap.size, 4, none⟩ = some (v4) := (cell_of_row _ _ 4 _ _ (0, 0) k0).trans rfl
  have b4 : w1.cell? ⟨w.heap.size + 1, 4, none⟩ = some (y4) := (cell_of_row _ _ 4 _ _ (0, 0) k1).trans rfl
  go_wp2_with fail
  refine (q0.out _ hb).mono ?_
  rintro r w2 ⟨rfl, hb1⟩
  clear a0 b0 a1 b1 a2 b2 a3 b3 a4 b4
  replace k0 := (hb1.block _ (by omega)).trans k0
  replace k1 := (hb1.block _ (by omega)).trans k1
  replace hb := hb.trans (hb1.mono hb.size)
  replace hz := Nat.lt_of_lt_of_le hz hb1.size
  clear hb1
  have a0 : w2.cell? ⟨w.heap.size, 0, none⟩ = some (.int .i64 s0) := (cell_of_row _ _ 0 _ _ (0, 0) k0).trans rfl
  have b0 : w2.cell? ⟨w.heap.size + 1, 0, none⟩ = some (.int .i64 t0) := (cell_of_row _ _ 0 _ _ (0, 0) k1).trans rfl
  have a1 : w2.cell? ⟨w.heap.size, 1, none⟩ = some (.int .i64 s1) := (cell_of_row _ _ 1 _ _ (0, 0) k0).trans rfl
  have b1 : w2.cell? ⟨w.heap.size + 1, 1, none⟩ = some (.int .i64 t1) := (cell_of_row _ _ 1 _ _ (0, 0) k1).trans rfl
  have a2 : w2.cell? ⟨w.heap.size, 2, none⟩ = some (v2) := (cell_of_row _ _ 2 _ _ (0, 0) k0).trans rfl
  have b2 : w2.cell? ⟨w.heap.size + 1, 2, none⟩ = some (y2) := (cell_of_row _ _ 2 _ _ (0, 0) k1).trans rfl
  have a3 : w2.cell? ⟨w.heap.size, 3, none⟩ = some (v3) := (cell_of_row _ _ 3 _ _ (0, 0) k0).trans rfl
  have b3 : w2.cell? ⟨w.heap.size + 1, 3, none⟩ = some (y3) := (cell_of_row _ _ 3 _ _ (0, 0) k1).trans rfl
  have a4 : w2.cell? ⟨w.heap.size, 4, none⟩ = some (v4) := (cell_of_row _ _ 4 _ _ (0, 0) k0).trans rfl
  have b4 : w2.cell? ⟨w.heap.size + 1, 4, none⟩ = some (y4) := (cell_of_row _ _ 4 _ _ (0, 0) k1).trans rfl
  clear k0 k1 hz
  replace hb := hide hb
  go_wp2_with fail
  go_ret
  exact ⟨ret_b (by first | (rw [hde.out]; rfl) | rw [hde.out]), hb.out⟩

end Go.Proofs.YtiaclddgllkgpaaGreatDoor
