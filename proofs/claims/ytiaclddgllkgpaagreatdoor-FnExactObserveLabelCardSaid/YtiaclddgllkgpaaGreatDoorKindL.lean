/-
  Transition systems as arguments of a law: words, sizes, copying, comparing. Conditions: sizes.
-/
import Derived.Test.YtiaclddgllkgpaaGreatDoorLtsMath
namespace Go.Proofs.YtiaclddgllkgpaaGreatDoor
open Go.ChangeShapes Go.WideShapes Go.ChangeAt Go.RowKit Go.Deep
set_option linter.unusedVariables false

def ArgS (w : World) (lo hi : Nat) (v : Value) (d : List ByteArray) : Prop := ∃ A n c, v = .slice A n c ∧ n ≤ maxLen ∧ (∀ s ∈ d, s.size ≤ maxLen) ∧ SlS w lo hi A n d
def ArgE (w : World) (lo hi : Nat) (v : Value) (d : List Ed) : Prop := ∃ A n c, v = .slice A n c ∧ n ≤ maxLen ∧ SlE w lo hi A n d
section
variable {w w' : World} {lo hi lo' hi' B : Nat} {v : Value}
theorem ArgS.shape {d : List ByteArray} (h : ArgS w lo hi v d) : ∃ A n c, v = .slice A n c := by obtain ⟨A, n, c, h1, _⟩ := h; exact ⟨A, n, c, h1⟩
theorem ArgS.below {d : List ByteArray} (h : ArgS w lo hi v d) (hb : Below B w w') (hB : hi ≤ B ∨ w.heap.size ≤ B) : ArgS w' lo hi v d := by
  obtain ⟨A, n, c, h1, h2, h4, h3⟩ := h
  exact ⟨A, n, c, h1, h2, h4, h3.below hb hB⟩
theorem ArgS.more {d : List ByteArray} (h : ArgS w lo hi v d) (h1 : lo' ≤ lo) (h2 : hi ≤ hi') : ArgS w lo' hi' v d := by
  obtain ⟨A, n, c, q1, q2, q4, q3⟩ := h
  exact ⟨A, n, c, q1, q2, q4, q3.more h1 h2⟩
theorem ArgS.only {d : List ByteArray} (h : ArgS w lo hi v d) (g : Only lo' hi' w w') (hd : hi ≤ lo' ∨ hi' ≤ lo) : ArgS w' lo hi v d := by
  obtain ⟨A, n, c, h1, h2, h4, h3⟩ := h
  exact ⟨A, n, c, h1, h2, h4, h3.only g hd⟩
theorem ArgE.shape {d : List Ed} (h : ArgE w lo hi v d) : ∃ A n c, v = .slice A n c := by obtain ⟨A, n, c, h1, _⟩ := h; exact ⟨A, n, c, h1⟩
theorem ArgE.below {d : List Ed} (h : ArgE w lo hi v d) (hb : Below B w w') (hB : hi ≤ B ∨ w.heap.size ≤ B) : ArgE w' lo hi v d := by
  obtain ⟨A, n, c, h1, h2, h3⟩ := h
  exact ⟨A, n, c, h1, h2, h3.below hb hB⟩
theorem ArgE.more {d : List Ed} (h : ArgE w lo hi v d) (h1 : lo' ≤ lo) (h2 : hi ≤ hi') : ArgE w lo' hi' v d := by
  obtain ⟨A, n, c, q1, q2, q3⟩ := h
  exact ⟨A, n, c, q1, q2, q3.more h1 h2⟩
theorem ArgE.only {d : List Ed} (h : ArgE w lo hi v d) (g : Only lo' hi' w w') (hd : hi ≤ lo' ∨ hi' ≤ lo) : ArgE w' lo hi v d := by
  obtain ⟨A, n, c, h1, h2, h3⟩ := h
  exact ⟨A, n, c, h1, h2, h3.only g hd⟩
end
theorem toStringS_a {v : Value} {d : List ByteArray} {w : World} {lo hi : Nat} (h : ArgS w lo hi v d) (ht : d.length ≤ 1048576) :
    Calls Tryz.prog 36 #[v] w fun e w' => ∃ v', e = .returned v' ∧ ArgS w' w.heap.size w'.heap.size v' d ∧ Below w.heap.size w w' := by
  obtain ⟨A, n, c, rfl, h2, h4, h3⟩ := h
  have hl := h3.len
  refine (toStringS_calls A n c d w lo hi h3 (by omega)).mono ?_
  rintro e w' ⟨A', rfl, hb, hs⟩
  exact ⟨_, rfl, ⟨A', n, n, rfl, h2, h4, hs⟩, hb⟩
theorem eqStringS_a {v u : Value} {d e : List ByteArray} {w : World} {lo hi lo' hi' : Nat} (h : ArgS w lo hi v d) (g : ArgS w lo' hi' u e) (hs : d.length ≤ 1048576) (gs : e.length ≤ 1048576) :
    Calls Tryz.prog 38 #[v, u] w fun r w' => r = .returned (.bool (decide (d = e))) ∧ Below w.heap.size w w' := by
  obtain ⟨A, n, c, rfl, h1, h4, h2⟩ := h
  obtain ⟨B, m, b, rfl, g1, g4, g2⟩ := g
  exact eqStringS_calls A B n m c b d e w lo hi lo' hi' h2 g2 h1 g1
theorem toEdgeS_a {v : Value} {d : List Ed} {w : World} {lo hi : Nat} (h : ArgE w lo hi v d) (ht : d.length ≤ 1048576) :
    Calls Tryz.prog 88 #[v] w fun e w' => ∃ v', e = .returned v' ∧ ArgE w' w.heap.size w'.heap.size v' d ∧ Below w.heap.size w w' := by
  obtain ⟨A, n, c, rfl, h2, h3⟩ := h
  have hl := h3.len
  refine (toEdgeS_calls A n c d w lo hi h3 (by omega)).mono ?_
  rintro e w' ⟨A', rfl, hb, hs⟩
  exact ⟨_, rfl, ⟨A', n, n, rfl, h2, hs⟩, hb⟩
theorem eqEdgeS_a {v u : Value} {d e : List Ed} {w : World} {lo hi lo' hi' : Nat} (h : ArgE w lo hi v d) (g : ArgE w lo' hi' u e) (hs : d.length ≤ 1048576) (gs : e.length ≤ 1048576) :
    Calls Tryz.prog 94 #[v, u] w fun r w' => r = .returned (.bool (decide (d = e))) ∧ Below w.heap.size w w' := by
  obtain ⟨A, n, c, rfl, h1, h2⟩ := h
  obtain ⟨B, m, b, rfl, g1, g2⟩ := g
  exact eqEdgeS_calls A B n m c b d e w lo hi lo' hi' h2 g2 h1 g1

/-- A system's cells, and what they read as. -/
abbrev CL := Int × Int × Value × Value
def ReadL (w : World) (lo hi : Nat) (x : CL) (d : DL) : Prop := x.1 = d.1 ∧ x.2.1 = d.2.1 ∧ ArgS w lo hi x.2.2.1 d.2.2.1 ∧ ArgE w lo hi x.2.2.2 d.2.2.2
def totL (d : DL) : Nat := totS d.2.2.1 + d.2.2.2.length
theorem totL_lab (d : DL) : d.2.2.1.length ≤ totL d := by unfold totL totS; omega
theorem totL_edg (d : DL) : d.2.2.2.length ≤ totL d := by unfold totL; omega
section
variable {w w' : World} {lo hi lo' hi' B : Nat} {x : CL} {d : DL}
theorem ReadL.below (h : ReadL w lo hi x d) (hb : Below B w w') (hB : hi ≤ B ∨ w.heap.size ≤ B) : ReadL w' lo hi x d := ⟨h.1, h.2.1, h.2.2.1.below hb hB, h.2.2.2.below hb hB⟩
theorem ReadL.more (h : ReadL w lo hi x d) (h1 : lo' ≤ lo) (h2 : hi ≤ hi') : ReadL w lo' hi' x d := ⟨h.1, h.2.1, h.2.2.1.more h1 h2, h.2.2.2.more h1 h2⟩
theorem ReadL.only (h : ReadL w lo hi x d) (g : Only lo' hi' w w') (hd : hi ≤ lo' ∨ hi' ≤ lo) : ReadL w' lo hi x d := ⟨h.1, h.2.1, h.2.2.1.only g hd, h.2.2.2.only g hd⟩
end
instance decEdL : DecidableEq (List Ed) := inferInstance
instance decBaL : DecidableEq (List ByteArray) := inferInstance
instance decDL : DecidableEq DL := inferInstance

set_option maxHeartbeats 800000 in
theorem szLts_b {x : CL} {d : DL} {left : Int} {w : World} {lo hi : Nat} (h : ReadL w lo hi x d) (h0 : 0 ≤ left) (h1 : left ≤ 1048576) :
    Calls Tryz.prog 44 #[.agg #[.int .i64 x.1, .int .i64 x.2.1, x.2.2.1, x.2.2.2], .int .i64 left] w fun e w' => e = .returned (.int .i64 (szLeft left (totL d))) ∧ Below w.heap.size w w' := by
  obtain ⟨s0, s1, v2, v3⟩ := x
  obtain ⟨d0, d1, d2, d3⟩ := d
  obtain ⟨e0, e1, ⟨A2, n2, c2, e2, hn2, hs2, t2⟩, ⟨A3, n3, c3, e3, hn3, t3⟩⟩ := h
  dsimp only at *
  subst e0 e1 e2 e3
  have hb0 : Below w.heap.size w (w.alloc (.cells #[.int .i64 s0, .int .i64 s1, .slice A2 n2 c2, .slice A3 n3 c3] 25)) := (Below.refl _ _).alloc (Nat.le_refl _) _
  have k0 := heap_alloc_new w (.cells #[.int .i64 s0, .int .i64 s1, .slice A2 n2 c2, .slice A3 n3 c3] 25)
  have hz : w.heap.size < (w.alloc (.cells #[.int .i64 s0, .int .i64 s1, .slice A2 n2 c2, .slice A3 n3 c3] 25)).heap.size := by rw [World.size_alloc]; omega
  have l3 := t3.len
  have q2 := szStringS_calls A2 n2 c2 d2 left _ lo hi (t2.below hb0 (.inr (Nat.le_refl _))) hn2 hs2 h0 h1
  have q3 := fun L (hL0 : 0 ≤ L) (hL1 : L ≤ 1048576) W => szEdgeS_calls A3 n3 c3 L W hn3 hL0 hL1
  unfold maxLen at hn2 hn3
  clear t2 t3 hs2
  by_cases b2 : left < (totS d2 : Int)
  · rw [szLeft_big b2] at q2
    replace q2 := hide q2
    have hv : Hid (szLeft left (totL (s0, s1, d2, d3)) = -1) := by show _ = _; exact szLeft_big (by simp only [totL]; omega)
    clear q3 b2 l3
    go_enter Tryz.func44, Tryz.ntmps44
    go_wp2_with fail
    refine q2.out.mono ?_
    rintro e w1 ⟨rfl, hb1⟩
    go_wp2_with fail
    go_ret
    exact ⟨ret_i hv.out, hb0.trans (hb1.mono hb0.size)⟩
  · rw [szLeft_fits b2] at q2
    replace q2 := hide q2
    have q3 := fun W => q3 (left - (totS d2 : Int)) (by omega) (by omega) W
    have hr0 : ¬ left - (totS d2 : Int) < 0 := by omega
    by_cases b3 : left - (totS d2 : Int) < n3
    · have hv : Hid (szLeft left (totL (s0, s1, d2, d3)) = -1) := by show _ = _; exact szLeft_big (by simp only [totL]; omega)
      simp only [szLeft_big b3] at q3
      replace q3 := hide q3
      clear b3 b2 l3
      go_enter Tryz.func44, Tryz.ntmps44
      go_wp2_with fail
      refine q2.out.mono ?_
      rintro e w1 ⟨rfl, hb1⟩
      replace k0 := (hb1.block _ hz).trans k0
      have a3 : w1.cell? ⟨w.heap.size, 3, none⟩ = some (.slice A3 n3 c3) := (cell_of_row _ _ 3 _ _ (0, 0) k0).trans rfl
      go_wp2_with fail
      refine (q3.out _).mono ?_
      rintro e w2 ⟨rfl, rfl⟩
      go_wp2_with fail
      go_ret
      exact ⟨ret_i hv.out, hb0.trans (hb1.mono hb0.size)⟩
    · have hv : Hid (szLeft left (totL (s0, s1, d2, d3)) = left - (totS d2 : Int) - (n3 : Int)) := by show _ = _; rw [szLeft_fits (by simp only [totL]; omega)]; simp only [totL]; omega
      simp only [szLeft_fits b3] at q3
      replace q3 := hide q3
      have hr1 : ¬ left - (totS d2 : Int) - (n3 : Int) < 0 := by omega
      clear b3 b2 l3
      go_enter Tryz.func44, Tryz.ntmps44
      go_wp2_with fail
      refine q2.out.mono ?_
      rintro e w1 ⟨rfl, hb1⟩
      replace k0 := (hb1.block _ hz).trans k0
      have a3 : w1.cell? ⟨w.heap.size, 3, none⟩ = some (.slice A3 n3 c3) := (cell_of_row _ _ 3 _ _ (0, 0) k0).trans rfl
      go_wp2_with fail
      refine (q3.out _).mono ?_
      rintro e w2 ⟨rfl, rfl⟩
      go_wp2_with fail
      go_ret
      exact ⟨ret_i hv.out, hb0.trans (hb1.mono hb0.size)⟩

set_option maxHeartbeats 1600000 in
set_option maxRecDepth 100000 in
theorem toLts_a {x : CL} {d : DL} {w : World} {lo hi : Nat} (h : ReadL w lo hi x d) (ht : totL d ≤ 1048576) :
    Calls Tryz.prog 46 #[.agg #[.int .i64 x.1, .int .i64 x.2.1, x.2.2.1, x.2.2.2]] w fun e w' => ∃ y : CL, e = .returned (.agg #[.int .i64 y.1, .int .i64 y.2.1, y.2.2.1, y.2.2.2]) ∧ ReadL w' w.heap.size w'.heap.size y d ∧ Below w.heap.size w w' := by
  obtain ⟨v0, v1, v2, v3⟩ := x
  obtain ⟨d0, d1, d2, d3⟩ := d
  obtain ⟨rfl, rfl, t2, t3⟩ := h
  dsimp only at *
  simp only [totL, totS] at ht
  have q2 := hide (fun W (hW : Below w.heap.size w W) => toStringS_a (t2.below hW (.inr (Nat.le_refl _))) (by omega))
  have q3 := hide (fun W (hW : Below w.heap.size w W) => toEdgeS_a (t3.below hW (.inr (Nat.le_refl _))) (by omega))
  clear t2 t3
  have k0 : (((w.alloc (.cells #[.int .i64 v0, .int .i64 v1, v2, v3] 25)).alloc (.cells #[.int .i64 0, .int .i64 0, .slice none 0 0, .slice none 0 0] 33)).alloc (.cells #[.int .i64 v0, .int .i64 v1, .slice none 0 0, .slice none 0 0] 33)).heap[w.heap.size]? = some (.cells #[.int .i64 v0, .int .i64 v1, v2, v3] 25 (0, 0)) := (Below.heap_alloc _ _ _ (by simp only [World.size_alloc]; omega)).trans ((Below.heap_alloc _ _ _ (by simp only [World.size_alloc]; omega)).trans (heap_alloc_new w _))
  have k1 : (((w.alloc (.cells #[.int .i64 v0, .int .i64 v1, v2, v3] 25)).alloc (.cells #[.int .i64 0, .int .i64 0, .slice none 0 0, .slice none 0 0] 33)).alloc (.cells #[.int .i64 v0, .int .i64 v1, .slice none 0 0, .slice none 0 0] 33)).heap[w.heap.size + 1]? = some (.cells #[.int .i64 0, .int .i64 0, .slice none 0 0, .slice none 0 0] 33 (0, 0)) := by have h := heap_alloc_new (w.alloc (.cells #[.int .i64 v0, .int .i64 v1, v2, v3] 25)) (.cells #[.int .i64 0, .int .i64 0, .slice none 0 0, .slice none 0 0] 33); rw [World.size_alloc] at h; exact (Below.heap_alloc _ _ _ (by simp only [World.size_alloc]; omega)).trans h
  have k2 : (((w.alloc (.cells #[.int .i64 v0, .int .i64 v1, v2, v3] 25)).alloc (.cells #[.int .i64 0, .int .i64 0, .slice none 0 0, .slice none 0 0] 33)).alloc (.cells #[.int .i64 v0, .int .i64 v1, .slice none 0 0, .slice none 0 0] 33)).heap[w.heap.size + 1 + 1]? = some (.cells #[.int .i64 v0, .int .i64 v1, .slice none 0 0, .slice none 0 0] 33 (0, 0)) := by have h := heap_alloc_new ((w.alloc (.cells #[.int .i64 v0, .int .i64 v1, v2, v3] 25)).alloc (.cells #[.int .i64 0, .int .i64 0, .slice none 0 0, .slice none 0 0] 33)) (.cells #[.int .i64 v0, .int .i64 v1, .slice none 0 0, .slice none 0 0] 33); rw [World.size_alloc, World.size_alloc] at h; exact h
  have hb : Below w.heap.size w (((w.alloc (.cells #[.int .i64 v0, .int .i64 v1, v2, v3] 25)).alloc (.cells #[.int .i64 0, .int .i64 0, .slice none 0 0, .slice none 0 0] 33)).alloc (.cells #[.int .i64 v0, .int .i64 v1, .slice none 0 0, .slice none 0 0] 33)) := (((Below.refl _ _).alloc (Nat.le_refl _) _).alloc (by simp only [World.size_alloc]; omega) _).alloc (by simp only [World.size_alloc]; omega) _
  have hz : w.heap.size + 1 + 1 < (((w.alloc (.cells #[.int .i64 v0, .int .i64 v1, v2, v3] 25)).alloc (.cells #[.int .i64 0, .int .i64 0, .slice none 0 0, .slice none 0 0] 33)).alloc (.cells #[.int .i64 v0, .int .i64 v1, .slice none 0 0, .slice none 0 0] 33)).heap.size := by simp only [World.size_alloc]; omega
  go_enter Tryz.func46, Tryz.ntmps46
  go_wp2_with fail
  generalize (((w.alloc (.cells #[.int .i64 v0, .int .i64 v1, v2, v3] 25)).alloc (.cells #[.int .i64 0, .int .i64 0, .slice none 0 0, .slice none 0 0] 33)).alloc (.cells #[.int .i64 v0, .int .i64 v1, .slice none 0 0, .slice none 0 0] 33)) = W at *
  refine (q2.out _ hb).mono ?_
  rintro e w1 ⟨u2, rfl, g2, hb1⟩
  replace k0 := (hb1.block _ (by omega)).trans k0
  replace k1 := (hb1.block _ (by omega)).trans k1
  replace k2 := (hb1.block _ (by omega)).trans k2
  have hz1 := hb1.size
  try simp only [World.size_setCell] at hz1
  replace g2 := g2.more (lo' := w.heap.size + 1 + 1 + 1) (hi' := w1.heap.size) hz (Nat.le_refl _)
  obtain ⟨A2, n2, c2, rfl⟩ := g2.shape
  replace hb := hb.trans (hb1.mono hb.size)
  replace hz := Nat.lt_of_lt_of_le hz hb1.size
  clear hz1 hb1
  have a0 : w1.cell? ⟨w.heap.size, 0, none⟩ = some (.int .i64 v0) := (cell_of_row _ _ 0 _ _ (0, 0) k0).trans rfl
  have b0 : w1.cell? ⟨w.heap.size + 1 + 1, 0, none⟩ = some (.int .i64 v0) := (cell_of_row _ _ 0 _ _ (0, 0) k2).trans rfl
  have f0 := frozen_of_row _ _ 0 _ _ k2
  have r0 : w1.cell? ⟨w.heap.size + 1, 0, none⟩ = some (.int .i64 0) := (cell_of_row _ _ 0 _ _ (0, 0) k1).trans rfl
  have s0 := frozen_of_row _ _ 0 _ _ k1
  have a1 : w1.cell? ⟨w.heap.size, 1, none⟩ = some (.int .i64 v1) := (cell_of_row _ _ 1 _ _ (0, 0) k0).trans rfl
  have b1 : w1.cell? ⟨w.heap.size + 1 + 1, 1, none⟩ = some (.int .i64 v1) := (cell_of_row _ _ 1 _ _ (0, 0) k2).trans rfl
  have f1 := frozen_of_row _ _ 1 _ _ k2
  have r1 : w1.cell? ⟨w.heap.size + 1, 1, none⟩ = some (.int .i64 0) := (cell_of_row _ _ 1 _ _ (0, 0) k1).trans rfl
  have s1 := frozen_of_row _ _ 1 _ _ k1
  have a2 : w1.cell? ⟨w.heap.size, 2, none⟩ = some (v2) := (cell_of_row _ _ 2 _ _ (0, 0) k0).trans rfl
  have b2 : w1.cell? ⟨w.heap.size + 1 + 1, 2, none⟩ = some (.slice none 0 0) := (cell_of_row _ _ 2 _ _ (0, 0) k2).trans rfl
  have f2 := frozen_of_row _ _ 2 _ _ k2
  have r2 : w1.cell? ⟨w.heap.size + 1, 2, none⟩ = some (.slice none 0 0) := (cell_of_row _ _ 2 _ _ (0, 0) k1).trans rfl
  have s2 := frozen_of_row _ _ 2 _ _ k1
  have a3 : w1.cell? ⟨w.heap.size, 3, none⟩ = some (v3) := (cell_of_row _ _ 3 _ _ (0, 0) k0).trans rfl
  have b3 : w1.cell? ⟨w.heap.size + 1 + 1, 3, none⟩ = some (.slice none 0 0) := (cell_of_row _ _ 3 _ _ (0, 0) k2).trans rfl
  have f3 := frozen_of_row _ _ 3 _ _ k2
  have r3 : w1.cell? ⟨w.heap.size + 1, 3, none⟩ = some (.slice none 0 0) := (cell_of_row _ _ 3 _ _ (0, 0) k1).trans rfl
  have s3 := frozen_of_row _ _ 3 _ _ k1
  go_wp2_with fail
  replace k0 : (w1.setCell ⟨w.heap.size + 1 + 1, 2, none⟩ (.slice A2 n2 c2)).heap[w.heap.size]? = _ := (Below.heap_setCell _ _ _ _ (by show w.heap.size ≠ w.heap.size + 1 + 1; omega)).trans k0
  replace k1 : (w1.setCell ⟨w.heap.size + 1 + 1, 2, none⟩ (.slice A2 n2 c2)).heap[w.heap.size + 1]? = _ := (Below.heap_setCell _ _ _ _ (by show w.heap.size + 1 ≠ w.heap.size + 1 + 1; omega)).trans k1
  replace k2 : (w1.setCell ⟨w.heap.size + 1 + 1, 2, none⟩ (.slice A2 n2 c2)).heap[w.heap.size + 1 + 1]? = some (.cells #[.int .i64 v0, .int .i64 v1, .slice A2 n2 c2, .slice none 0 0] 33 (0, 0)) := heap_setCell_same _ _ _ _ _ _ k2
  replace hb : Below w.heap.size w (w1.setCell ⟨w.heap.size + 1 + 1, 2, none⟩ (.slice A2 n2 c2)) := hb.setCell (by show w.heap.size ≤ w.heap.size + 1 + 1; omega) _
  replace hz : w.heap.size + 1 + 1 < (w1.setCell ⟨w.heap.size + 1 + 1, 2, none⟩ (.slice A2 n2 c2)).heap.size := by rw [World.size_setCell]; exact hz
  replace g2 := g2.only ((Only.refl (w.heap.size + 1 + 1) (w.heap.size + 1 + 1 + 1) w1).setCell (p := ⟨w.heap.size + 1 + 1, 2, none⟩) (Nat.le_refl _) (Nat.lt_succ_self _) (.slice A2 n2 c2)) (.inr (by omega))
  refine (q3.out _ hb).mono ?_
  rintro e w2 ⟨u3, rfl, g3, hb1⟩
  clear a0 b0 f0 r0 s0 a1 b1 f1 r1 s1 a2 b2 f2 r2 s2 a3 b3 f3 r3 s3
  replace k0 := (hb1.block _ (by omega)).trans k0
  replace k1 := (hb1.block _ (by omega)).trans k1
  replace k2 := (hb1.block _ (by omega)).trans k2
  have hz1 := hb1.size
  try simp only [World.size_setCell] at hz1
  replace g2 := (g2.below hb1 (.inr (Nat.le_refl _))).more (lo' := w.heap.size + 1 + 1 + 1) (hi' := w2.heap.size) (Nat.le_refl _) hz1
  replace g3 := g3.more (lo' := w.heap.size + 1 + 1 + 1) (hi' := w2.heap.size) hz (Nat.le_refl _)
  obtain ⟨A3, n3, c3, rfl⟩ := g3.shape
  replace hb := hb.trans (hb1.mono hb.size)
  replace hz := Nat.lt_of_lt_of_le hz hb1.size
  clear hz1 hb1
  have a0 : w2.cell? ⟨w.heap.size, 0, none⟩ = some (.int .i64 v0) := (cell_of_row _ _ 0 _ _ (0, 0) k0).trans rfl
  have b0 : w2.cell? ⟨w.heap.size + 1 + 1, 0, none⟩ = some (.int .i64 v0) := (cell_of_row _ _ 0 _ _ (0, 0) k2).trans rfl
  have f0 := frozen_of_row _ _ 0 _ _ k2
  have r0 : w2.cell? ⟨w.heap.size + 1, 0, none⟩ = some (.int .i64 0) := (cell_of_row _ _ 0 _ _ (0, 0) k1).trans rfl
  have s0 := frozen_of_row _ _ 0 _ _ k1
  have a1 : w2.cell? ⟨w.heap.size, 1, none⟩ = some (.int .i64 v1) := (cell_of_row _ _ 1 _ _ (0, 0) k0).trans rfl
  have b1 : w2.cell? ⟨w.heap.size + 1 + 1, 1, none⟩ = some (.int .i64 v1) := (cell_of_row _ _ 1 _ _ (0, 0) k2).trans rfl
  have f1 := frozen_of_row _ _ 1 _ _ k2
  have r1 : w2.cell? ⟨w.heap.size + 1, 1, none⟩ = some (.int .i64 0) := (cell_of_row _ _ 1 _ _ (0, 0) k1).trans rfl
  have s1 := frozen_of_row _ _ 1 _ _ k1
  have a2 : w2.cell? ⟨w.heap.size, 2, none⟩ = some (v2) := (cell_of_row _ _ 2 _ _ (0, 0) k0).trans rfl
  have b2 : w2.cell? ⟨w.heap.size + 1 + 1, 2, none⟩ = some (.slice A2 n2 c2) := (cell_of_row _ _ 2 _ _ (0, 0) k2).trans rfl
  have f2 := frozen_of_row _ _ 2 _ _ k2
  have r2 : w2.cell? ⟨w.heap.size + 1, 2, none⟩ = some (.slice none 0 0) := (cell_of_row _ _ 2 _ _ (0, 0) k1).trans rfl
  have s2 := frozen_of_row _ _ 2 _ _ k1
  have a3 : w2.cell? ⟨w.heap.size, 3, none⟩ = some (v3) := (cell_of_row _ _ 3 _ _ (0, 0) k0).trans rfl
  have b3 : w2.cell? ⟨w.heap.size + 1 + 1, 3, none⟩ = some (.slice none 0 0) := (cell_of_row _ _ 3 _ _ (0, 0) k2).trans rfl
  have f3 := frozen_of_row _ _ 3 _ _ k2
  have r3 : w2.cell? ⟨w.heap.size + 1, 3, none⟩ = some (.slice none 0 0) := (cell_of_row _ _ 3 _ _ (0, 0) k1).trans rfl
  have s3 := frozen_of_row _ _ 3 _ _ k1
  go_wp2_with fail
  replace k0 : (w2.setCell ⟨w.heap.size + 1 + 1, 3, none⟩ (.slice A3 n3 c3)).heap[w.heap.size]? = _ := (Below.heap_setCell _ _ _ _ (by show w.heap.size ≠ w.heap.size + 1 + 1; omega)).trans k0
  replace k1 : (w2.setCell ⟨w.heap.size + 1 + 1, 3, none⟩ (.slice A3 n3 c3)).heap[w.heap.size + 1]? = _ := (Below.heap_setCell _ _ _ _ (by show w.heap.size + 1 ≠ w.heap.size + 1 + 1; omega)).trans k1
  replace k2 : (w2.setCell ⟨w.heap.size + 1 + 1, 3, none⟩ (.slice A3 n3 c3)).heap[w.heap.size + 1 + 1]? = some (.cells #[.int .i64 v0, .int .i64 v1, .slice A2 n2 c2, .slice A3 n3 c3] 33 (0, 0)) := heap_setCell_same _ _ _ _ _ _ k2
  replace hb : Below w.heap.size w (w2.setCell ⟨w.heap.size + 1 + 1, 3, none⟩ (.slice A3 n3 c3)) := hb.setCell (by show w.heap.size ≤ w.heap.size + 1 + 1; omega) _
  replace hz : w.heap.size + 1 + 1 < (w2.setCell ⟨w.heap.size + 1 + 1, 3, none⟩ (.slice A3 n3 c3)).heap.size := by rw [World.size_setCell]; exact hz
  replace g2 := g2.only ((Only.refl (w.heap.size + 1 + 1) (w.heap.size + 1 + 1 + 1) w2).setCell (p := ⟨w.heap.size + 1 + 1, 3, none⟩) (Nat.le_refl _) (Nat.lt_succ_self _) (.slice A3 n3 c3)) (.inr (by omega))
  replace g3 := g3.only ((Only.refl (w.heap.size + 1 + 1) (w.heap.size + 1 + 1 + 1) w2).setCell (p := ⟨w.heap.size + 1 + 1, 3, none⟩) (Nat.le_refl _) (Nat.lt_succ_self _) (.slice A3 n3 c3)) (.inr (by omega))
  have hbF : Below w.heap.size w (((((w2.setCell ⟨w.heap.size + 1 + 1, 3, none⟩ (.slice A3 n3 c3)).setCell ⟨w.heap.size + 1, 0, none⟩ (.int .i64 v0)).setCell ⟨w.heap.size + 1, 1, none⟩ (.int .i64 v1)).setCell ⟨w.heap.size + 1, 2, none⟩ (.slice A2 n2 c2)).setCell ⟨w.heap.size + 1, 3, none⟩ (.slice A3 n3 c3)) := ((((hb.setCell (by show w.heap.size ≤ w.heap.size + 1; omega) _).setCell (by show w.heap.size ≤ w.heap.size + 1; omega) _).setCell (by show w.heap.size ≤ w.heap.size + 1; omega) _).setCell (by show w.heap.size ≤ w.heap.size + 1; omega) _)
  have hoF : Only (w.heap.size + 1) (w.heap.size + 1 + 1) (w2.setCell ⟨w.heap.size + 1 + 1, 3, none⟩ (.slice A3 n3 c3)) (((((w2.setCell ⟨w.heap.size + 1 + 1, 3, none⟩ (.slice A3 n3 c3)).setCell ⟨w.heap.size + 1, 0, none⟩ (.int .i64 v0)).setCell ⟨w.heap.size + 1, 1, none⟩ (.int .i64 v1)).setCell ⟨w.heap.size + 1, 2, none⟩ (.slice A2 n2 c2)).setCell ⟨w.heap.size + 1, 3, none⟩ (.slice A3 n3 c3)) := (((((Only.refl (w.heap.size + 1) (w.heap.size + 1 + 1) (w2.setCell ⟨w.heap.size + 1 + 1, 3, none⟩ (.slice A3 n3 c3))).setCell (p := ⟨w.heap.size + 1, 0, none⟩) (Nat.le_refl _) (Nat.lt_succ_self _) (.int .i64 v0)).setCell (p := ⟨w.heap.size + 1, 1, none⟩) (Nat.le_refl _) (Nat.lt_succ_self _) (.int .i64 v1)).setCell (p := ⟨w.heap.size + 1, 2, none⟩) (Nat.le_refl _) (Nat.lt_succ_self _) (.slice A2 n2 c2)).setCell (p := ⟨w.heap.size + 1, 3, none⟩) (Nat.le_refl _) (Nat.lt_succ_self _) (.slice A3 n3 c3))
  replace g2 := (g2.only hoF (.inr (by omega))).more (lo' := w.heap.size) (hi' := (((((w2.setCell ⟨w.heap.size + 1 + 1, 3, none⟩ (.slice A3 n3 c3)).setCell ⟨w.heap.size + 1, 0, none⟩ (.int .i64 v0)).setCell ⟨w.heap.size + 1, 1, none⟩ (.int .i64 v1)).setCell ⟨w.heap.size + 1, 2, none⟩ (.slice A2 n2 c2)).setCell ⟨w.heap.size + 1, 3, none⟩ (.slice A3 n3 c3)).heap.size) (by omega) (by simp only [World.size_setCell]; exact Nat.le_refl _)
  replace g3 := (g3.only hoF (.inr (by omega))).more (lo' := w.heap.size) (hi' := (((((w2.setCell ⟨w.heap.size + 1 + 1, 3, none⟩ (.slice A3 n3 c3)).setCell ⟨w.heap.size + 1, 0, none⟩ (.int .i64 v0)).setCell ⟨w.heap.size + 1, 1, none⟩ (.int .i64 v1)).setCell ⟨w.heap.size + 1, 2, none⟩ (.slice A2 n2 c2)).setCell ⟨w.heap.size + 1, 3, none⟩ (.slice A3 n3 c3)).heap.size) (by omega) (by simp only [World.size_setCell]; exact Nat.le_refl _)
  have kF : (((((w2.setCell ⟨w.heap.size + 1 + 1, 3, none⟩ (.slice A3 n3 c3)).setCell ⟨w.heap.size + 1, 0, none⟩ (.int .i64 v0)).setCell ⟨w.heap.size + 1, 1, none⟩ (.int .i64 v1)).setCell ⟨w.heap.size + 1, 2, none⟩ (.slice A2 n2 c2)).setCell ⟨w.heap.size + 1, 3, none⟩ (.slice A3 n3 c3)).heap[w.heap.size + 1]? = some (.cells #[.int .i64 v0, .int .i64 v1, .slice A2 n2 c2, .slice A3 n3 c3] 33 (0, 0)) := (heap_setCell_same _ _ _ _ _ _ (heap_setCell_same _ _ _ _ _ _ (heap_setCell_same _ _ _ _ _ _ (heap_setCell_same _ _ _ _ _ _ k1))))
  clear a0 b0 f0 r0 s0 a1 b1 f1 r1 s1 a2 b2 f2 r2 s2 a3 b3 f3 r3 s3
  have rF0 : (((((w2.setCell ⟨w.heap.size + 1 + 1, 3, none⟩ (.slice A3 n3 c3)).setCell ⟨w.heap.size + 1, 0, none⟩ (.int .i64 v0)).setCell ⟨w.heap.size + 1, 1, none⟩ (.int .i64 v1)).setCell ⟨w.heap.size + 1, 2, none⟩ (.slice A2 n2 c2)).setCell ⟨w.heap.size + 1, 3, none⟩ (.slice A3 n3 c3)).cell? ⟨w.heap.size + 1, 0, none⟩ = some (.int .i64 v0) := (cell_of_row _ _ 0 _ _ (0, 0) kF).trans rfl
  have rF1 : (((((w2.setCell ⟨w.heap.size + 1 + 1, 3, none⟩ (.slice A3 n3 c3)).setCell ⟨w.heap.size + 1, 0, none⟩ (.int .i64 v0)).setCell ⟨w.heap.size + 1, 1, none⟩ (.int .i64 v1)).setCell ⟨w.heap.size + 1, 2, none⟩ (.slice A2 n2 c2)).setCell ⟨w.heap.size + 1, 3, none⟩ (.slice A3 n3 c3)).cell? ⟨w.heap.size + 1, 1, none⟩ = some (.int .i64 v1) := (cell_of_row _ _ 1 _ _ (0, 0) kF).trans rfl
  have rF2 : (((((w2.setCell ⟨w.heap.size + 1 + 1, 3, none⟩ (.slice A3 n3 c3)).setCell ⟨w.heap.size + 1, 0, none⟩ (.int .i64 v0)).setCell ⟨w.heap.size + 1, 1, none⟩ (.int .i64 v1)).setCell ⟨w.heap.size + 1, 2, none⟩ (.slice A2 n2 c2)).setCell ⟨w.heap.size + 1, 3, none⟩ (.slice A3 n3 c3)).cell? ⟨w.heap.size + 1, 2, none⟩ = some (.slice A2 n2 c2) := (cell_of_row _ _ 2 _ _ (0, 0) kF).trans rfl
  have rF3 : (((((w2.setCell ⟨w.heap.size + 1 + 1, 3, none⟩ (.slice A3 n3 c3)).setCell ⟨w.heap.size + 1, 0, none⟩ (.int .i64 v0)).setCell ⟨w.heap.size + 1, 1, none⟩ (.int .i64 v1)).setCell ⟨w.heap.size + 1, 2, none⟩ (.slice A2 n2 c2)).setCell ⟨w.heap.size + 1, 3, none⟩ (.slice A3 n3 c3)).cell? ⟨w.heap.size + 1, 3, none⟩ = some (.slice A3 n3 c3) := (cell_of_row _ _ 3 _ _ (0, 0) kF).trans rfl
  clear hoF hb hz k0 k1 k2 kF q2 q3
  generalize (((((w2.setCell ⟨w.heap.size + 1 + 1, 3, none⟩ (.slice A3 n3 c3)).setCell ⟨w.heap.size + 1, 0, none⟩ (.int .i64 v0)).setCell ⟨w.heap.size + 1, 1, none⟩ (.int .i64 v1)).setCell ⟨w.heap.size + 1, 2, none⟩ (.slice A2 n2 c2)).setCell ⟨w.heap.size + 1, 3, none⟩ (.slice A3 n3 c3)) = WF at *
  refine bodyPost_ret (by simp [results, Tryz.results46, go_sem, rF0, rF1, rF2, rF3]; try rfl) rfl ?_
  exact ⟨(v0, v1, .slice A2 n2 c2, .slice A3 n3 c3), rfl, ⟨rfl, rfl, g2, g3⟩, hbF⟩

set_option maxHeartbeats 1600000 in
set_option maxRecDepth 100000 in
theorem eqLts_a {x y : CL} {d e : DL} {w : World} {lo hi lo' hi' : Nat} (h : ReadL w lo hi x d) (g : ReadL w lo' hi' y e) (hs : totL d ≤ 1048576) (gs : totL e ≤ 1048576) :
    Calls Tryz.prog 48 #[.agg #[.int .i64 x.1, .int .i64 x.2.1, x.2.2.1, x.2.2.2], .agg #[.int .i64 y.1, .int .i64 y.2.1, y.2.2.1, y.2.2.2]] w fun r w' => r = .returned (.bool (decide (d = e))) ∧ Below w.heap.size w w' := by
  obtain ⟨x0, x1, x2, x3⟩ := x
  obtain ⟨y0, y1, y2, y3⟩ := y
  obtain ⟨d0, d1, d2, d3⟩ := d
  obtain ⟨e0, e1, e2, e3⟩ := e
  obtain ⟨h0, h1, h2, h3⟩ := h
  obtain ⟨g0, g1, g2, g3⟩ := g
  dsimp only at *
  subst h0 g0
  subst h1 g1
  simp only [totL, totS] at hs gs
  have k0 : ((w.alloc (.cells #[.int .i64 x0, .int .i64 x1, x2, x3] 33)).alloc (.cells #[.int .i64 y0, .int .i64 y1, y2, y3] 33)).heap[w.heap.size]? = some (.cells #[.int .i64 x0, .int .i64 x1, x2, x3] 33 (0, 0)) := (Below.heap_alloc _ _ _ (by simp only [World.size_alloc]; omega)).trans (heap_alloc_new w _)
  have k1 : ((w.alloc (.cells #[.int .i64 x0, .int .i64 x1, x2, x3] 33)).alloc (.cells #[.int .i64 y0, .int .i64 y1, y2, y3] 33)).heap[w.heap.size + 1]? = some (.cells #[.int .i64 y0, .int .i64 y1, y2, y3] 33 (0, 0)) := by have h := heap_alloc_new (w.alloc (.cells #[.int .i64 x0, .int .i64 x1, x2, x3] 33)) (.cells #[.int .i64 y0, .int .i64 y1, y2, y3] 33); rw [World.size_alloc] at h; exact h
  have hb : Below w.heap.size w ((w.alloc (.cells #[.int .i64 x0, .int .i64 x1, x2, x3] 33)).alloc (.cells #[.int .i64 y0, .int .i64 y1, y2, y3] 33)) := ((Below.refl _ _).alloc (Nat.le_refl _) _).alloc (by simp only [World.size_alloc]; omega) _
  have hz : w.heap.size + 1 < ((w.alloc (.cells #[.int .i64 x0, .int .i64 x1, x2, x3] 33)).alloc (.cells #[.int .i64 y0, .int .i64 y1, y2, y3] 33)).heap.size := by simp only [World.size_alloc]; omega
  have q2 := hide (fun W (hW : Below w.heap.size w W) => eqStringS_a (h2.below hW (.inr (Nat.le_refl _))) (g2.below hW (.inr (Nat.le_refl _))) (by omega) (by omega))
  have q3 := hide (fun W (hW : Below w.heap.size w W) => eqEdgeS_a (h3.below hW (.inr (Nat.le_refl _))) (g3.below hW (.inr (Nat.le_refl _))) (by omega) (by omega))
  clear h2 g2 h3 g3
  by_cases he : (x0, x1, d2, d3) = (y0, y1, e2, e3)
  · have hE := hide he
    simp only [Prod.mk.injEq] at he
    obtain ⟨z0, z1, z2, z3⟩ := he
    subst z0
    subst z1
    skip
    go_enter Tryz.func48, Tryz.ntmps48
    go_wp2_with fail
    try generalize ((w.alloc (.cells #[.int .i64 x0, .int .i64 x1, x2, x3] 33)).alloc (.cells #[.int .i64 x0, .int .i64 x1, y2, y3] 33)) = W at *
    have qq := q2.out _ hb
    rw [decide_eq_true z2] at qq
    replace qq := hide qq
    refine qq.out.mono ?_
    rintro r w1 ⟨rfl, hb1⟩
    clear qq
    replace k0 := (hb1.block _ (by omega)).trans k0
    replace k1 := (hb1.block _ (by omega)).trans k1
    replace hb := hb.trans (hb1.mono hb.size)
    replace hz := Nat.lt_of_lt_of_le hz hb1.size
    clear hb1
    have a0 : w1.cell? ⟨w.heap.size, 0, none⟩ = some (.int .i64 x0) := (cell_of_row _ _ 0 _ _ (0, 0) k0).trans rfl
    have b0 : w1.cell? ⟨w.heap.size + 1, 0, none⟩ = some (.int .i64 x0) := (cell_of_row _ _ 0 _ _ (0, 0) k1).trans rfl
    have a1 : w1.cell? ⟨w.heap.size, 1, none⟩ = some (.int .i64 x1) := (cell_of_row _ _ 1 _ _ (0, 0) k0).trans rfl
    have b1 : w1.cell? ⟨w.heap.size + 1, 1, none⟩ = some (.int .i64 x1) := (cell_of_row _ _ 1 _ _ (0, 0) k1).trans rfl
    have a2 : w1.cell? ⟨w.heap.size, 2, none⟩ = some (x2) := (cell_of_row _ _ 2 _ _ (0, 0) k0).trans rfl
    have b2 : w1.cell? ⟨w.heap.size + 1, 2, none⟩ = some (y2) := (cell_of_row _ _ 2 _ _ (0, 0) k1).trans rfl
    have a3 : w1.cell? ⟨w.heap.size, 3, none⟩ = some (x3) := (cell_of_row _ _ 3 _ _ (0, 0) k0).trans rfl
    have b3 : w1.cell? ⟨w.heap.size + 1, 3, none⟩ = some (y3) := (cell_of_row _ _ 3 _ _ (0, 0) k1).trans rfl
    go_wp2_with fail
    have qq := q3.out _ hb
    rw [decide_eq_true z3] at qq
    replace qq := hide qq
    refine qq.out.mono ?_
    rintro r w2 ⟨rfl, hb1⟩
    clear a0 b0 a1 b1 a2 b2 a3 b3
    clear qq
    replace k0 := (hb1.block _ (by omega)).trans k0
    replace k1 := (hb1.block _ (by omega)).trans k1
    replace hb := hb.trans (hb1.mono hb.size)
    replace hz := Nat.lt_of_lt_of_le hz hb1.size
    clear hb1
    have a0 : w2.cell? ⟨w.heap.size, 0, none⟩ = some (.int .i64 x0) := (cell_of_row _ _ 0 _ _ (0, 0) k0).trans rfl
    have b0 : w2.cell? ⟨w.heap.size + 1, 0, none⟩ = some (.int .i64 x0) := (cell_of_row _ _ 0 _ _ (0, 0) k1).trans rfl
    have a1 : w2.cell? ⟨w.heap.size, 1, none⟩ = some (.int .i64 x1) := (cell_of_row _ _ 1 _ _ (0, 0) k0).trans rfl
    have b1 : w2.cell? ⟨w.heap.size + 1, 1, none⟩ = some (.int .i64 x1) := (cell_of_row _ _ 1 _ _ (0, 0) k1).trans rfl
    have a2 : w2.cell? ⟨w.heap.size, 2, none⟩ = some (x2) := (cell_of_row _ _ 2 _ _ (0, 0) k0).trans rfl
    have b2 : w2.cell? ⟨w.heap.size + 1, 2, none⟩ = some (y2) := (cell_of_row _ _ 2 _ _ (0, 0) k1).trans rfl
    have a3 : w2.cell? ⟨w.heap.size, 3, none⟩ = some (x3) := (cell_of_row _ _ 3 _ _ (0, 0) k0).trans rfl
    have b3 : w2.cell? ⟨w.heap.size + 1, 3, none⟩ = some (y3) := (cell_of_row _ _ 3 _ _ (0, 0) k1).trans rfl
    go_wp2_with fail
    go_ret
    exact ⟨by rw [decide_eq_true hE.out]; rfl, hb⟩
  · have hN : Hid (¬ ((x0, x1, d2, d3) = (y0, y1, e2, e3))) := he
    by_cases c0 : x0 = y0
    · subst c0
      have z0 : x0 = x0 := rfl
      replace z0 := hide z0
      by_cases c1 : x1 = y1
      · subst c1
        have z1 : x1 = x1 := rfl
        replace z1 := hide z1
        by_cases c2 : d2 = e2
        · have z2 := hide c2
          clear c2
          by_cases c3 : d3 = e3
          · have z3 := hide c3
            clear c3
            exact absurd (Prod.ext z0.out (Prod.ext z1.out (Prod.ext z2.out (z3.out)))) hN.out
          · replace c3 := hide c3
            skip
            go_enter Tryz.func48, Tryz.ntmps48
            go_wp2_with fail
            try generalize ((w.alloc (.cells #[.int .i64 x0, .int .i64 x1, x2, x3] 33)).alloc (.cells #[.int .i64 x0, .int .i64 x1, y2, y3] 33)) = W at *
            have qq := q2.out _ hb
            rw [decide_eq_true z2.out] at qq
            replace qq := hide qq
            refine qq.out.mono ?_
            rintro r w1 ⟨rfl, hb1⟩
            clear qq
            replace k0 := (hb1.block _ (by omega)).trans k0
            replace k1 := (hb1.block _ (by omega)).trans k1
            replace hb := hb.trans (hb1.mono hb.size)
            replace hz := Nat.lt_of_lt_of_le hz hb1.size
            clear hb1
            have a0 : w1.cell? ⟨w.heap.size, 0, none⟩ = some (.int .i64 x0) := (cell_of_row _ _ 0 _ _ (0, 0) k0).trans rfl
            have b0 : w1.cell? ⟨w.heap.size + 1, 0, none⟩ = some (.int .i64 x0) := (cell_of_row _ _ 0 _ _ (0, 0) k1).trans rfl
            have a1 : w1.cell? ⟨w.heap.size, 1, none⟩ = some (.int .i64 x1) := (cell_of_row _ _ 1 _ _ (0, 0) k0).trans rfl
            have b1 : w1.cell? ⟨w.heap.size + 1, 1, none⟩ = some (.int .i64 x1) := (cell_of_row _ _ 1 _ _ (0, 0) k1).trans rfl
            have a2 : w1.cell? ⟨w.heap.size, 2, none⟩ = some (x2) := (cell_of_row _ _ 2 _ _ (0, 0) k0).trans rfl
            have b2 : w1.cell? ⟨w.heap.size + 1, 2, none⟩ = some (y2) := (cell_of_row _ _ 2 _ _ (0, 0) k1).trans rfl
            have a3 : w1.cell? ⟨w.heap.size, 3, none⟩ = some (x3) := (cell_of_row _ _ 3 _ _ (0, 0) k0).trans rfl
            have b3 : w1.cell? ⟨w.heap.size + 1, 3, none⟩ = some (y3) := (cell_of_row _ _ 3 _ _ (0, 0) k1).trans rfl
            go_wp2_with fail
            have qq := q3.out _ hb
            rw [decide_eq_false c3.out] at qq
            replace qq := hide qq
            refine qq.out.mono ?_
            rintro r w2 ⟨rfl, hb1⟩
            clear a0 b0 a1 b1 a2 b2 a3 b3
            clear qq
            replace k0 := (hb1.block _ (by omega)).trans k0
            replace k1 := (hb1.block _ (by omega)).trans k1
            replace hb := hb.trans (hb1.mono hb.size)
            replace hz := Nat.lt_of_lt_of_le hz hb1.size
            clear hb1
            have a0 : w2.cell? ⟨w.heap.size, 0, none⟩ = some (.int .i64 x0) := (cell_of_row _ _ 0 _ _ (0, 0) k0).trans rfl
            have b0 : w2.cell? ⟨w.heap.size + 1, 0, none⟩ = some (.int .i64 x0) := (cell_of_row _ _ 0 _ _ (0, 0) k1).trans rfl
            have a1 : w2.cell? ⟨w.heap.size, 1, none⟩ = some (.int .i64 x1) := (cell_of_row _ _ 1 _ _ (0, 0) k0).trans rfl
            have b1 : w2.cell? ⟨w.heap.size + 1, 1, none⟩ = some (.int .i64 x1) := (cell_of_row _ _ 1 _ _ (0, 0) k1).trans rfl
            have a2 : w2.cell? ⟨w.heap.size, 2, none⟩ = some (x2) := (cell_of_row _ _ 2 _ _ (0, 0) k0).trans rfl
            have b2 : w2.cell? ⟨w.heap.size + 1, 2, none⟩ = some (y2) := (cell_of_row _ _ 2 _ _ (0, 0) k1).trans rfl
            have a3 : w2.cell? ⟨w.heap.size, 3, none⟩ = some (x3) := (cell_of_row _ _ 3 _ _ (0, 0) k0).trans rfl
            have b3 : w2.cell? ⟨w.heap.size + 1, 3, none⟩ = some (y3) := (cell_of_row _ _ 3 _ _ (0, 0) k1).trans rfl
            go_wp2_with fail
            go_ret
            exact ⟨by first | (rw [decide_eq_false hN.out]; rfl) | rfl, hb⟩
        · replace c2 := hide c2
          clear q3
          go_enter Tryz.func48, Tryz.ntmps48
          go_wp2_with fail
          try generalize ((w.alloc (.cells #[.int .i64 x0, .int .i64 x1, x2, x3] 33)).alloc (.cells #[.int .i64 x0, .int .i64 x1, y2, y3] 33)) = W at *
          have qq := q2.out _ hb
          rw [decide_eq_false c2.out] at qq
          replace qq := hide qq
          refine qq.out.mono ?_
          rintro r w1 ⟨rfl, hb1⟩
          clear qq
          replace k0 := (hb1.block _ (by omega)).trans k0
          replace k1 := (hb1.block _ (by omega)).trans k1
          replace hb := hb.trans (hb1.mono hb.size)
          replace hz := Nat.lt_of_lt_of_le hz hb1.size
          clear hb1
          have a0 : w1.cell? ⟨w.heap.size, 0, none⟩ = some (.int .i64 x0) := (cell_of_row _ _ 0 _ _ (0, 0) k0).trans rfl
          have b0 : w1.cell? ⟨w.heap.size + 1, 0, none⟩ = some (.int .i64 x0) := (cell_of_row _ _ 0 _ _ (0, 0) k1).trans rfl
          have a1 : w1.cell? ⟨w.heap.size, 1, none⟩ = some (.int .i64 x1) := (cell_of_row _ _ 1 _ _ (0, 0) k0).trans rfl
          have b1 : w1.cell? ⟨w.heap.size + 1, 1, none⟩ = some (.int .i64 x1) := (cell_of_row _ _ 1 _ _ (0, 0) k1).trans rfl
          have a2 : w1.cell? ⟨w.heap.size, 2, none⟩ = some (x2) := (cell_of_row _ _ 2 _ _ (0, 0) k0).trans rfl
          have b2 : w1.cell? ⟨w.heap.size + 1, 2, none⟩ = some (y2) := (cell_of_row _ _ 2 _ _ (0, 0) k1).trans rfl
          have a3 : w1.cell? ⟨w.heap.size, 3, none⟩ = some (x3) := (cell_of_row _ _ 3 _ _ (0, 0) k0).trans rfl
          have b3 : w1.cell? ⟨w.heap.size + 1, 3, none⟩ = some (y3) := (cell_of_row _ _ 3 _ _ (0, 0) k1).trans rfl
          go_wp2_with fail
          go_ret
          exact ⟨by first | (rw [decide_eq_false hN.out]; rfl) | rfl, hb⟩
      · have cc : (x1 != y1) = true := by rw [bne_iff_ne]; exact c1
        clear c1
        clear q2 q3
        go_enter Tryz.func48, Tryz.ntmps48
        go_wp2_with fail
        try generalize ((w.alloc (.cells #[.int .i64 x0, .int .i64 x1, x2, x3] 33)).alloc (.cells #[.int .i64 x0, .int .i64 y1, y2, y3] 33)) = W at *
        go_ret
        exact ⟨by first | (rw [decide_eq_false hN.out]; rfl) | rfl, hb⟩
    · have cc : (x0 != y0) = true := by rw [bne_iff_ne]; exact c0
      clear c0
      clear q2 q3
      go_enter Tryz.func48, Tryz.ntmps48
      go_wp2_with fail
      try generalize ((w.alloc (.cells #[.int .i64 x0, .int .i64 x1, x2, x3] 33)).alloc (.cells #[.int .i64 y0, .int .i64 y1, y2, y3] 33)) = W at *
      go_ret
      exact ⟨by first | (rw [decide_eq_false hN.out]; rfl) | rfl, hb⟩


end Go.Proofs.YtiaclddgllkgpaaGreatDoor
