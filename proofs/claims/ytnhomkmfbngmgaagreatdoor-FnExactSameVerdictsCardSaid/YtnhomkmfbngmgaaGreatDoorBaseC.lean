/-
  Several texts in one:
  Transition systems as arguments of a law: words, sizes, copying, comparing. Conditions: sizes.
  Small tests on numbers, both programs'. Conditions: none.
  Names: the program's test and the reference's. Conditions: none.
  What a world brings of the library's settled variables, and the program's readings of numbers. Conditions: sizes.
  The program's reading of one number. Conditions: sizes.
  The reference's cutting of texts. Conditions: sizes.
  The reference's reading of one number. Conditions: sizes.
-/
import Derived.Test.YtnhomkmfbngmgaaGreatDoorBaseA
import Derived.Test.YtnhomkmfbngmgaaGreatDoorBaseB
import Derived.IntWalk
import Derived.StillTailTactics
import Derived.Lib.AppendIntMem
import Derived.WalkSmall
import Derived.Deep.RegionLaw
set_option linter.unusedSimpArgs false
set_option linter.unusedVariables false
namespace Go.Proofs.YtnhomkmfbngmgaaGreatDoor
open Go.ChangeShapes Go.WideShapes Go.ChangeAt Go.RowKit Go.Deep
set_option linter.unusedVariables false

def ArgS (w : World) (lo hi : Nat) (v : Value) (d : List ByteArray) : Prop := ∃ A n c, v = .slice A n c ∧ n ≤ maxLen ∧ (∀ s ∈ d, s.size ≤ maxLen) ∧ SlS w lo hi A n d
def ArgE (w : World) (lo hi : Nat) (v : Value) (d : List Ed) : Prop := ∃ A n c, v = .slice A n c ∧ n ≤ maxLen ∧ SlE w lo hi A n d
section
variable {w w' : World} {lo hi lo' hi' B : Nat} {v : Value}
theorem ArgS.shape {d : List ByteArray} (h : ArgS w lo hi v d) : ∃ A n c, v = .slice A n c := by obtain ⟨A, n, c, h1, _⟩ := h; exact ⟨A, n, c, h1⟩
theorem ArgS.below {d : List ByteArray} (h : ArgS w lo hi v d) (hb : Below B w w') (hB : hi ≤ B ∨ w.heap.size ≤ B) : ArgS w' lo hi v d := by
  obtain ⟨A, n, c, h1, h2, h4, h3⟩ := h
  exact ⟨A, n, c, h1, h2, h4, h3.below hb hB⟩
theorem ArgS.more {d : List ByteArray} (h : ArgS w lo hi v d) (h1 : lo' ≤ lo) (h2 : hi ≤ hi') : ArgS w lo' hi' v d := by
  obtain ⟨A, n, c, q1, q2, q4, q3⟩ := h
  exact ⟨A, n, c, q1, q2, q4, q3.more h1 h2⟩
theorem ArgS.only {d : List ByteArray} (h : ArgS w lo hi v d) (g : Only lo' hi' w w') (hd : hi ≤ lo' ∨ hi' ≤ lo) : ArgS w' lo hi v d := by
  obtain ⟨A, n, c, h1, h2, h4, h3⟩ := h
  exact ⟨A, n, c, h1, h2, h4, h3.only g hd⟩
theorem ArgE.shape {d : List Ed} (h : ArgE w lo hi v d) : ∃ A n c, v = .slice A n c := by obtain ⟨A, n, c, h1, _⟩ := h; exact ⟨A, n, c, h1⟩
theorem ArgE.below {d : List Ed} (h : ArgE w lo hi v d) (hb : Below B w w') (hB : hi ≤ B ∨ w.heap.size ≤ B) : ArgE w' lo hi v d := by
  obtain ⟨A, n, c, h1, h2, h3⟩ := h
  exact ⟨A, n, c, h1, h2, h3.below hb hB⟩
theorem ArgE.more {d : List Ed} (h : ArgE w lo hi v d) (h1 : lo' ≤ lo) (h2 : hi ≤ hi') : ArgE w lo' hi' v d := by
  obtain ⟨A, n, c, q1, q2, q3⟩ := h
  exact ⟨A, n, c, q1, q2, q3.more h1 h2⟩
theorem ArgE.only {d : List Ed} (h : ArgE w lo hi v d) (g : Only lo' hi' w w') (hd : hi ≤ lo' ∨ hi' ≤ lo) : ArgE w' lo hi v d := by
  obtain ⟨A, n, c, h1, h2, h3⟩ := h
  exact ⟨A, n, c, h1, h2, h3.only g hd⟩
end
theorem toStringS_a {v : Value} {d : List ByteArray} {w : World} {lo hi : Nat} (h : ArgS w lo hi v d) (ht : d.length ≤ 1048576) :
    Calls Tryz.prog 148 #[v] w fun e w' => ∃ v', e = .returned v' ∧ ArgS w' w.heap.size w'.heap.size v' d ∧ Below w.heap.size w w' := by
  obtain ⟨A, n, c, rfl, h2, h4, h3⟩ := h
  have hl := h3.len
  refine (toStringS_calls A n c d w lo hi h3 (by omega)).mono ?_
  rintro e w' ⟨A', rfl, hb, hs⟩
  exact ⟨_, rfl, ⟨A', n, n, rfl, h2, h4, hs⟩, hb⟩
theorem eqStringS_a {v u : Value} {d e : List ByteArray} {w : World} {lo hi lo' hi' : Nat} (h : ArgS w lo hi v d) (g : ArgS w lo' hi' u e) (hs : d.length ≤ 1048576) (gs : e.length ≤ 1048576) :
    Calls Tryz.prog 24 #[v, u] w fun r w' => r = .returned (.bool (decide (d = e))) ∧ Below w.heap.size w w' := by
  obtain ⟨A, n, c, rfl, h1, h4, h2⟩ := h
  obtain ⟨B, m, b, rfl, g1, g4, g2⟩ := g
  exact eqStringS_calls A B n m c b d e w lo hi lo' hi' h2 g2 h1 g1
theorem toEdgeS_a {v : Value} {d : List Ed} {w : World} {lo hi : Nat} (h : ArgE w lo hi v d) (ht : d.length ≤ 1048576) :
    Calls Tryz.prog 149 #[v] w fun e w' => ∃ v', e = .returned v' ∧ ArgE w' w.heap.size w'.heap.size v' d ∧ Below w.heap.size w w' := by
  obtain ⟨A, n, c, rfl, h2, h3⟩ := h
  have hl := h3.len
  refine (toEdgeS_calls A n c d w lo hi h3 (by omega)).mono ?_
  rintro e w' ⟨A', rfl, hb, hs⟩
  exact ⟨_, rfl, ⟨A', n, n, rfl, h2, hs⟩, hb⟩
theorem eqEdgeS_a {v u : Value} {d e : List Ed} {w : World} {lo hi lo' hi' : Nat} (h : ArgE w lo hi v d) (g : ArgE w lo' hi' u e) (hs : d.length ≤ 1048576) (gs : e.length ≤ 1048576) :
    Calls Tryz.prog 157 #[v, u] w fun r w' => r = .returned (.bool (decide (d = e))) ∧ Below w.heap.size w w' := by
  obtain ⟨A, n, c, rfl, h1, h2⟩ := h
  obtain ⟨B, m, b, rfl, g1, g2⟩ := g
  exact eqEdgeS_calls A B n m c b d e w lo hi lo' hi' h2 g2 h1 g1

/-- A system's cells, and what they read as. -/
abbrev CL := Int × Int × Value × Value
def ReadL (w : World) (lo hi : Nat) (x : CL) (d : DL) : Prop := x.1 = d.1 ∧ x.2.1 = d.2.1 ∧ ArgS w lo hi x.2.2.1 d.2.2.1 ∧ ArgE w lo hi x.2.2.2 d.2.2.2
def totL (d : DL) : Nat := totS d.2.2.1 + d.2.2.2.length
theorem totL_lab (d : DL) : d.2.2.1.length ≤ totL d := by unfold totL totS; omega
theorem totL_edg (d : DL) : d.2.2.2.length ≤ totL d := by unfold totL; omega
section
variable {w w' : World} {lo hi lo' hi' B : Nat} {x : CL} {d : DL}
theorem ReadL.below (h : ReadL w lo hi x d) (hb : Below B w w') (hB : hi ≤ B ∨ w.heap.size ≤ B) : ReadL w' lo hi x d := ⟨h.1, h.2.1, h.2.2.1.below hb hB, h.2.2.2.below hb hB⟩
theorem ReadL.more (h : ReadL w lo hi x d) (h1 : lo' ≤ lo) (h2 : hi ≤ hi') : ReadL w lo' hi' x d := ⟨h.1, h.2.1, h.2.2.1.more h1 h2, h.2.2.2.more h1 h2⟩
theorem ReadL.only (h : ReadL w lo hi x d) (g : Only lo' hi' w w') (hd : hi ≤ lo' ∨ hi' ≤ lo) : ReadL w' lo hi x d := ⟨h.1, h.2.1, h.2.2.1.only g hd, h.2.2.2.only g hd⟩
end
instance decEdL : DecidableEq (List Ed) := inferInstance
instance decBaL : DecidableEq (List ByteArray) := inferInstance
instance decDL : DecidableEq DL := inferInstance

set_option maxHeartbeats 800000 in
theorem szLts_b {x : CL} {d : DL} {left : Int} {w : World} {lo hi : Nat} (h : ReadL w lo hi x d) (h0 : 0 ≤ left) (h1 : left ≤ 1048576) :
    Calls Tryz.prog 65 #[.agg #[.int .i64 x.1, .int .i64 x.2.1, x.2.2.1, x.2.2.2], .int .i64 left] w fun e w' => e = .returned (.int .i64 (szLeft left (totL d))) ∧ Below w.heap.size w w' := by
  obtain ⟨s0, s1, v2, v3⟩ := x
  obtain ⟨d0, d1, d2, d3⟩ := d
  obtain ⟨e0, e1, ⟨A2, n2, c2, e2, hn2, hs2, t2⟩, ⟨A3, n3, c3, e3, hn3, t3⟩⟩ := h
  dsimp only at *
  subst e0 e1 e2 e3
  have hb0 : Below w.heap.size w (w.alloc (.cells #[.int .i64 s0, .int .i64 s1, .slice A2 n2 c2, .slice A3 n3 c3] 45)) := (Below.refl _ _).alloc (Nat.le_refl _) _
  have k0 := heap_alloc_new w (.cells #[.int .i64 s0, .int .i64 s1, .slice A2 n2 c2, .slice A3 n3 c3] 45)
  have hz : w.heap.size < (w.alloc (.cells #[.int .i64 s0, .int .i64 s1, .slice A2 n2 c2, .slice A3 n3 c3] 45)).heap.size := by rw [World.size_alloc]; omega
  have l3 := t3.len
  have q2 := szStringS_calls A2 n2 c2 d2 left _ lo hi (t2.below hb0 (.inr (Nat.le_refl _))) hn2 hs2 h0 h1
  have q3 := fun L (hL0 : 0 ≤ L) (hL1 : L ≤ 1048576) W => szEdgeS_calls A3 n3 c3 L W hn3 hL0 hL1
  unfold maxLen at hn2 hn3
  clear t2 t3 hs2
  by_cases b2 : left < (totS d2 : Int)
  · rw [szLeft_big b2] at q2
    replace q2 := hide q2
    have hv : Hid (szLeft left (totL (s0, s1, d2, d3)) = -1) := by show _ = _; exact szLeft_big (by simp only [totL]; omega)
    clear q3 b2 l3
    go_enter Tryz.func65, Tryz.ntmps65
    go_wp2_with fail
    refine q2.out.mono ?_
    rintro e w1 ⟨rfl, hb1⟩
    go_wp2_with fail
    go_ret
    exact ⟨ret_i hv.out, hb0.trans (hb1.mono hb0.size)⟩
  · rw [szLeft_fits b2] at q2
    replace q2 := hide q2
    have q3 := fun W => q3 (left - (totS d2 : Int)) (by omega) (by omega) W
    have hr0 : ¬ left - (totS d2 : Int) < 0 := by omega
    by_cases b3 : left - (totS d2 : Int) < n3
    · have hv : Hid (szLeft left (totL (s0, s1, d2, d3)) = -1) := by show _ = _; exact szLeft_big (by simp only [totL]; omega)
      simp only [szLeft_big b3] at q3
      replace q3 := hide q3
      clear b3 b2 l3
      go_enter Tryz.func65, Tryz.ntmps65
      go_wp2_with fail
      refine q2.out.mono ?_
      rintro e w1 ⟨rfl, hb1⟩
      replace k0 := (hb1.block _ hz).trans k0
      have a3 : w1.cell? ⟨w.heap.size, 3, none⟩ = some (.slice A3 n3 c3) := (cell_of_row _ _ 3 _ _ (0, 0) k0).trans rfl
      go_wp2_with fail
      refine (q3.out _).mono ?_
      rintro e w2 ⟨rfl, rfl⟩
      go_wp2_with fail
      go_ret
      exact ⟨ret_i hv.out, hb0.trans (hb1.mono hb0.size)⟩
    · have hv : Hid (szLeft left (totL (s0, s1, d2, d3)) = left - (totS d2 : Int) - (n3 : Int)) := by show _ = _; rw [szLeft_fits (by simp only [totL]; omega)]; simp only [totL]; omega
      simp only [szLeft_fits b3] at q3
      replace q3 := hide q3
      have hr1 : ¬ left - (totS d2 : Int) - (n3 : Int) < 0 := by omega
      clear b3 b2 l3
      go_enter Tryz.func65, Tryz.ntmps65
      go_wp2_with fail
      refine q2.out.mono ?_
      rintro e w1 ⟨rfl, hb1⟩
      replace k0 := (hb1.block _ hz).trans k0
      have a3 : w1.cell? ⟨w.heap.size, 3, none⟩ = some (.slice A3 n3 c3) := (cell_of_row _ _ 3 _ _ (0, 0) k0).trans rfl
      go_wp2_with fail
      refine (q3.out _).mono ?_
      rintro e w2 ⟨rfl, rfl⟩
      go_wp2_with fail
      go_ret
      exact ⟨ret_i hv.out, hb0.trans (hb1.mono hb0.size)⟩

set_option maxHeartbeats 1600000 in
set_option maxRecDepth 100000 in
theorem toLts_a {x : CL} {d : DL} {w : World} {lo hi : Nat} (h : ReadL w lo hi x d) (ht : totL d ≤ 1048576) :
    Calls Tryz.prog 69 #[.agg #[.int .i64 x.1, .int .i64 x.2.1, x.2.2.1, x.2.2.2]] w fun e w' => ∃ y : CL, e = .returned (.agg #[.int .i64 y.1, .int .i64 y.2.1, y.2.2.1, y.2.2.2]) ∧ ReadL w' w.heap.size w'.heap.size y d ∧ Below w.heap.size w w' := by
  obtain ⟨v0, v1, v2, v3⟩ := x
  obtain ⟨d0, d1, d2, d3⟩ := d
  obtain ⟨rfl, rfl, t2, t3⟩ := h
  dsimp only at *
  simp only [totL, totS] at ht
  have q2 := hide (fun W (hW : Below w.heap.size w W) => toStringS_a (t2.below hW (.inr (Nat.le_refl _))) (by omega))
  have q3 := hide (fun W (hW : Below w.heap.size w W) => toEdgeS_a (t3.below hW (.inr (Nat.le_refl _))) (by omega))
  clear t2 t3
  have k0 : (((w.alloc (.cells #[.int .i64 v0, .int .i64 v1, v2, v3] 45)).alloc (.cells #[.int .i64 0, .int .i64 0, .slice none 0 0, .slice none 0 0] 27)).alloc (.cells #[.int .i64 v0, .int .i64 v1, .slice none 0 0, .slice none 0 0] 27)).heap[w.heap.size]? = some (.cells #[.int .i64 v0, .int .i64 v1, v2, v3] 45 (0, 0)) := (Below.heap_alloc _ _ _ (by simp only [World.size_alloc]; omega)).trans ((Below.heap_alloc _ _ _ (by simp only [World.size_alloc]; omega)).trans (heap_alloc_new w _))
  have k1 : (((w.alloc (.cells #[.int .i64 v0, .int .i64 v1, v2, v3] 45)).alloc (.cells #[.int .i64 0, .int .i64 0, .slice none 0 0, .slice none 0 0] 27)).alloc (.cells #[.int .i64 v0, .int .i64 v1, .slice none 0 0, .slice none 0 0] 27)).heap[w.heap.size + 1]? = some (.cells #[.int .i64 0, .int .i64 0, .slice none 0 0, .slice none 0 0] 27 (0, 0)) := by have h := heap_alloc_new (w.alloc (.cells #[.int .i64 v0, .int .i64 v1, v2, v3] 45)) (.cells #[.int .i64 0, .int .i64 0, .slice none 0 0, .slice none 0 0] 27); rw [World.size_alloc] at h; exact (Below.heap_alloc _ _ _ (by simp only [World.size_alloc]; omega)).trans h
  have k2 : (((w.alloc (.cells #[.int .i64 v0, .int .i64 v1, v2, v3] 45)).alloc (.cells #[.int .i64 0, .int .i64 0, .slice none 0 0, .slice none 0 0] 27)).alloc (.cells #[.int .i64 v0, .int .i64 v1, .slice none 0 0, .slice none 0 0] 27)).heap[w.heap.size + 1 + 1]? = some (.cells #[.int .i64 v0, .int .i64 v1, .slice none 0 0, .slice none 0 0] 27 (0, 0)) := by have h := heap_alloc_new ((w.alloc (.cells #[.int .i64 v0, .int .i64 v1, v2, v3] 45)).alloc (.cells #[.int .i64 0, .int .i64 0, .slice none 0 0, .slice none 0 0] 27)) (.cells #[.int .i64 v0, .int .i64 v1, .slice none 0 0, .slice none 0 0] 27); rw [World.size_alloc, World.size_alloc] at h; exact h
  have hb : Below w.heap.size w (((w.alloc (.cells #[.int .i64 v0, .int .i64 v1, v2, v3] 45)).alloc (.cells #[.int .i64 0, .int .i64 0, .slice none 0 0, .slice none 0 0] 27)).alloc (.cells #[.int .i64 v0, .int .i64 v1, .slice none 0 0, .slice none 0 0] 27)) := (((Below.refl _ _).alloc (Nat.le_refl _) _).alloc (by simp only [World.size_alloc]; omega) _).alloc (by simp only [World.size_alloc]; omega) _
  have hz : w.heap.size + 1 + 1 < (((w.alloc (.cells #[.int .i64 v0, .int .i64 v1, v2, v3] 45)).alloc (.cells #[.int .i64 0, .int .i64 0, .slice none 0 0, .slice none 0 0] 27)).alloc (.cells #[.int .i64 v0, .int .i64 v1, .slice none 0 0, .slice none 0 0] 27)).heap.size := by simp only [World.size_alloc]; omega
  go_enter Tryz.func69, Tryz.ntmps69
  go_wp2_with fail
  generalize (((w.alloc (.cells #[.int .i64 v0, .int .i64 v1, v2, v3] 45)).alloc (.cells #[.int .i64 0, .int .i64 0, .slice none 0 0, .slice none 0 0] 27)).alloc (.cells #[.int .i64 v0, .int .i64 v1, .slice none 0 0, .slice none 0 0] 27)) = W at *
  refine (q2.out _ hb).mono ?_
  rintro e w1 ⟨u2, rfl, g2, hb1⟩
  replace k0 := (hb1.block _ (by omega)).trans k0
  replace k1 := (hb1.block _ (by omega)).trans k1
  replace k2 := (hb1.block _ (by omega)).trans k2
  have hz1 := hb1.size
  try simp only [World.size_setCell] at hz1
  replace g2 := g2.more (lo' := w.heap.size + 1 + 1 + 1) (hi' := w1.heap.size) hz (Nat.le_refl _)
  obtain ⟨A2, n2, c2, rfl⟩ := g2.shape
  replace hb := hb.trans (hb1.mono hb.size)
  replace hz := Nat.lt_of_lt_of_le hz hb1.size
  clear hz1 hb1
  have a0 : w1.cell? ⟨w.heap.size, 0, none⟩ = some (.int .i64 v0) := (cell_of_row _ _ 0 _ _ (0, 0) k0).trans rfl
  have b0 : w1.cell? ⟨w.heap.size + 1 + 1, 0, none⟩ = some (.int .i64 v0) := (cell_of_row _ _ 0 _ _ (0, 0) k2).trans rfl
  have f0 := frozen_of_row _ _ 0 _ _ k2
  have r0 : w1.cell? ⟨w.heap.size + 1, 0, none⟩ = some (.int .i64 0) := (cell_of_row _ _ 0 _ _ (0, 0) k1).trans rfl
  have s0 := frozen_of_row _ _ 0 _ _ k1
  have a1 : w1.cell? ⟨w.heap.size, 1, none⟩ = some (.int .i64 v1) := (cell_of_row _ _ 1 _ _ (0, 0) k0).trans rfl
  have b1 : w1.cell? ⟨w.heap.size + 1 + 1, 1, none⟩ = some (.int .i64 v1) := (cell_of_row _ _ 1 _ _ (0, 0) k2).trans rfl
  have f1 := frozen_of_row _ _ 1 _ _ k2
  have r1 : w1.cell? ⟨w.heap.size + 1, 1, none⟩ = some (.int .i64 0) := (cell_of_row _ _ 1 _ _ (0, 0) k1).trans rfl
  have s1 := frozen_of_row _ _ 1 _ _ k1
  have a2 : w1.cell? ⟨w.heap.size, 2, none⟩ = some (v2) := (cell_of_row _ _ 2 _ _ (0, 0) k0).trans rfl
  have b2 : w1.cell? ⟨w.heap.size + 1 + 1, 2, none⟩ = some (.slice none 0 0) := (cell_of_row _ _ 2 _ _ (0, 0) k2).trans rfl
  have f2 := frozen_of_row _ _ 2 _ _ k2
  have r2 : w1.cell? ⟨w.heap.size + 1, 2, none⟩ = some (.slice none 0 0) := (cell_of_row _ _ 2 _ _ (0, 0) k1).trans rfl
  have s2 := frozen_of_row _ _ 2 _ _ k1
  have a3 : w1.cell? ⟨w.heap.size, 3, none⟩ = some (v3) := (cell_of_row _ _ 3 _ _ (0, 0) k0).trans rfl
  have b3 : w1.cell? ⟨w.heap.size + 1 + 1, 3, none⟩ = some (.slice none 0 0) := (cell_of_row _ _ 3 _ _ (0, 0) k2).trans rfl
  have f3 := frozen_of_row _ _ 3 _ _ k2
  have r3 : w1.cell? ⟨w.heap.size + 1, 3, none⟩ = some (.slice none 0 0) := (cell_of_row _ _ 3 _ _ (0, 0) k1).trans rfl
  have s3 := frozen_of_row _ _ 3 _ _ k1
  go_wp2_with fail
  replace k0 : (w1.setCell ⟨w.heap.size + 1 + 1, 2, none⟩ (.slice A2 n2 c2)).heap[w.heap.size]? = _ := (Below.heap_setCell _ _ _ _ (by show w.heap.size ≠ w.heap.size + 1 + 1; omega)).trans k0
  replace k1 : (w1.setCell ⟨w.heap.size + 1 + 1, 2, none⟩ (.slice A2 n2 c2)).heap[w.heap.size + 1]? = _ := (Below.heap_setCell _ _ _ _ (by show w.heap.size + 1 ≠ w.heap.size + 1 + 1; omega)).trans k1
  replace k2 : (w1.setCell ⟨w.heap.size + 1 + 1, 2, none⟩ (.slice A2 n2 c2)).heap[w.heap.size + 1 + 1]? = some (.cells #[.int .i64 v0, .int .i64 v1, .slice A2 n2 c2, .slice none 0 0] 27 (0, 0)) := heap_setCell_same _ _ _ _ _ _ k2
  replace hb : Below w.heap.size w (w1.setCell ⟨w.heap.size + 1 + 1, 2, none⟩ (.slice A2 n2 c2)) := hb.setCell (by show w.heap.size ≤ w.heap.size + 1 + 1; omega) _
  replace hz : w.heap.size + 1 + 1 < (w1.setCell ⟨w.heap.size + 1 + 1, 2, none⟩ (.slice A2 n2 c2)).heap.size := by rw [World.size_setCell]; exact hz
  replace g2 := g2.only ((Only.refl (w.heap.size + 1 + 1) (w.heap.size + 1 + 1 + 1) w1).setCell (p := ⟨w.heap.size + 1 + 1, 2, none⟩) (Nat.le_refl _) (Nat.lt_succ_self _) (.slice A2 n2 c2)) (.inr (by omega))
  refine (q3.out _ hb).mono ?_
  rintro e w2 ⟨u3, rfl, g3, hb1⟩
  clear a0 b0 f0 r0 s0 a1 b1 f1 r1 s1 a2 b2 f2 r2 s2 a3 b3 f3 r3 s3
  replace k0 := (hb1.block _ (by omega)).trans k0
  replace k1 := (hb1.block _ (by omega)).trans k1
  replace k2 := (hb1.block _ (by omega)).trans k2
  have hz1 := hb1.size
  try simp only [World.size_setCell] at hz1
  replace g2 := (g2.below hb1 (.inr (Nat.le_refl _))).more (lo' := w.heap.size + 1 + 1 + 1) (hi' := w2.heap.size) (Nat.le_refl _) hz1
  replace g3 := g3.more (lo' := w.heap.size + 1 + 1 + 1) (hi' := w2.heap.size) hz (Nat.le_refl _)
  obtain ⟨A3, n3, c3, rfl⟩ := g3.shape
  replace hb := hb.trans (hb1.mono hb.size)
  replace hz := Nat.lt_of_lt_of_le hz hb1.size
  clear hz1 hb1
  have a0 : w2.cell? ⟨w.heap.size, 0, none⟩ = some (.int .i64 v0) := (cell_of_row _ _ 0 _ _ (0, 0) k0).trans rfl
  have b0 : w2.cell? ⟨w.heap.size + 1 + 1, 0, none⟩ = some (.int .i64 v0) := (cell_of_row _ _ 0 _ _ (0, 0) k2).trans rfl
  have f0 := frozen_of_row _ _ 0 _ _ k2
  have r0 : w2.cell? ⟨w.heap.size + 1, 0, none⟩ = some (.int .i64 0) := (cell_of_row _ _ 0 _ _ (0, 0) k1).trans rfl
  have s0 := frozen_of_row _ _ 0 _ _ k1
  have a1 : w2.cell? ⟨w.heap.size, 1, none⟩ = some (.int .i64 v1) := (cell_of_row _ _ 1 _ _ (0, 0) k0).trans rfl
  have b1 : w2.cell? ⟨w.heap.size + 1 + 1, 1, none⟩ = some (.int .i64 v1) := (cell_of_row _ _ 1 _ _ (0, 0) k2).trans rfl
  have f1 := frozen_of_row _ _ 1 _ _ k2
  have r1 : w2.cell? ⟨w.heap.size + 1, 1, none⟩ = some (.int .i64 0) := (cell_of_row _ _ 1 _ _ (0, 0) k1).trans rfl
  have s1 := frozen_of_row _ _ 1 _ _ k1
  have a2 : w2.cell? ⟨w.heap.size, 2, none⟩ = some (v2) := (cell_of_row _ _ 2 _ _ (0, 0) k0).trans rfl
  have b2 : w2.cell? ⟨w.heap.size + 1 + 1, 2, none⟩ = some (.slice A2 n2 c2) := (cell_of_row _ _ 2 _ _ (0, 0) k2).trans rfl
  have f2 := frozen_of_row _ _ 2 _ _ k2
  have r2 : w2.cell? ⟨w.heap.size + 1, 2, none⟩ = some (.slice none 0 0) := (cell_of_row _ _ 2 _ _ (0, 0) k1).trans rfl
  have s2 := frozen_of_row _ _ 2 _ _ k1
  have a3 : w2.cell? ⟨w.heap.size, 3, none⟩ = some (v3) := (cell_of_row _ _ 3 _ _ (0, 0) k0).trans rfl
  have b3 : w2.cell? ⟨w.heap.size + 1 + 1, 3, none⟩ = some (.slice none 0 0) := (cell_of_row _ _ 3 _ _ (0, 0) k2).trans rfl
  have f3 := frozen_of_row _ _ 3 _ _ k2
  have r3 : w2.cell? ⟨w.heap.size + 1, 3, none⟩ = some (.slice none 0 0) := (cell_of_row _ _ 3 _ _ (0, 0) k1).trans rfl
  have s3 := frozen_of_row _ _ 3 _ _ k1
  go_wp2_with fail
  replace k0 : (w2.setCell ⟨w.heap.size + 1 + 1, 3, none⟩ (.slice A3 n3 c3)).heap[w.heap.size]? = _ := (Below.heap_setCell _ _ _ _ (by show w.heap.size ≠ w.heap.size + 1 + 1; omega)).trans k0
  replace k1 : (w2.setCell ⟨w.heap.size + 1 + 1, 3, none⟩ (.slice A3 n3 c3)).heap[w.heap.size + 1]? = _ := (Below.heap_setCell _ _ _ _ (by show w.heap.size + 1 ≠ w.heap.size + 1 + 1; omega)).trans k1
  replace k2 : (w2.setCell ⟨w.heap.size + 1 + 1, 3, none⟩ (.slice A3 n3 c3)).heap[w.heap.size + 1 + 1]? = some (.cells #[.int .i64 v0, .int .i64 v1, .slice A2 n2 c2, .slice A3 n3 c3] 27 (0, 0)) := heap_setCell_same _ _ _ _ _ _ k2
  replace hb : Below w.heap.size w (w2.setCell ⟨w.heap.size + 1 + 1, 3, none⟩ (.slice A3 n3 c3)) := hb.setCell (by show w.heap.size ≤ w.heap.size + 1 + 1; omega) _
  replace hz : w.heap.size + 1 + 1 < (w2.setCell ⟨w.heap.size + 1 + 1, 3, none⟩ (.slice A3 n3 c3)).heap.size := by rw [World.size_setCell]; exact hz
  replace g2 := g2.only ((Only.refl (w.heap.size + 1 + 1) (w.heap.size + 1 + 1 + 1) w2).setCell (p := ⟨w.heap.size + 1 + 1, 3, none⟩) (Nat.le_refl _) (Nat.lt_succ_self _) (.slice A3 n3 c3)) (.inr (by omega))
  replace g3 := g3.only ((Only.refl (w.heap.size + 1 + 1) (w.heap.size + 1 + 1 + 1) w2).setCell (p := ⟨w.heap.size + 1 + 1, 3, none⟩) (Nat.le_refl _) (Nat.lt_succ_self _) (.slice A3 n3 c3)) (.inr (by omega))
  have hbF : Below w.heap.size w (((((w2.setCell ⟨w.heap.size + 1 + 1, 3, none⟩ (.slice A3 n3 c3)).setCell ⟨w.heap.size + 1, 0, none⟩ (.int .i64 v0)).setCell ⟨w.heap.size + 1, 1, none⟩ (.int .i64 v1)).setCell ⟨w.heap.size + 1, 2, none⟩ (.slice A2 n2 c2)).setCell ⟨w.heap.size + 1, 3, none⟩ (.slice A3 n3 c3)) := ((((hb.setCell (by show w.heap.size ≤ w.heap.size + 1; omega) _).setCell (by show w.heap.size ≤ w.heap.size + 1; omega) _).setCell (by show w.heap.size ≤ w.heap.size + 1; omega) _).setCell (by show w.heap.size ≤ w.heap.size + 1; omega) _)
  have hoF : Only (w.heap.size + 1) (w.heap.size + 1 + 1) (w2.setCell ⟨w.heap.size + 1 + 1, 3, none⟩ (.slice A3 n3 c3)) (((((w2.setCell ⟨w.heap.size + 1 + 1, 3, none⟩ (.slice A3 n3 c3)).setCell ⟨w.heap.size + 1, 0, none⟩ (.int .i64 v0)).setCell ⟨w.heap.size + 1, 1, none⟩ (.int .i64 v1)).setCell ⟨w.heap.size + 1, 2, none⟩ (.slice A2 n2 c2)).setCell ⟨w.heap.size + 1, 3, none⟩ (.slice A3 n3 c3)) := (((((Only.refl (w.heap.size + 1) (w.heap.size + 1 + 1) (w2.setCell ⟨w.heap.size + 1 + 1, 3, none⟩ (.slice A3 n3 c3))).setCell (p := ⟨w.heap.size + 1, 0, none⟩) (Nat.le_refl _) (Nat.lt_succ_self _) (.int .i64 v0)).setCell (p := ⟨w.heap.size + 1, 1, none⟩) (Nat.le_refl _) (Nat.lt_succ_self _) (.int .i64 v1)).setCell (p := ⟨w.heap.size + 1, 2, none⟩) (Nat.le_refl _) (Nat.lt_succ_self _) (.slice A2 n2 c2)).setCell (p := ⟨w.heap.size + 1, 3, none⟩) (Nat.le_refl _) (Nat.lt_succ_self _) (.slice A3 n3 c3))
  replace g2 := (g2.only hoF (.inr (by omega))).more (lo' := w.heap.size) (hi' := (((((w2.setCell ⟨w.heap.size + 1 + 1, 3, none⟩ (.slice A3 n3 c3)).setCell ⟨w.heap.size + 1, 0, none⟩ (.int .i64 v0)).setCell ⟨w.heap.size + 1, 1, none⟩ (.int .i64 v1)).setCell ⟨w.heap.size + 1, 2, none⟩ (.slice A2 n2 c2)).setCell ⟨w.heap.size + 1, 3, none⟩ (.slice A3 n3 c3)).heap.size) (by omega) (by simp only [World.size_setCell]; exact Nat.le_refl _)
  replace g3 := (g3.only hoF (.inr (by omega))).more (lo' := w.heap.size) (hi' := (((((w2.setCell ⟨w.heap.size + 1 + 1, 3, none⟩ (.slice A3 n3 c3)).setCell ⟨w.heap.size + 1, 0, none⟩ (.int .i64 v0)).setCell ⟨w.heap.size + 1, 1, none⟩ (.int .i64 v1)).setCell ⟨w.heap.size + 1, 2, none⟩ (.slice A2 n2 c2)).setCell ⟨w.heap.size + 1, 3, none⟩ (.slice A3 n3 c3)).heap.size) (by omega) (by simp only [World.size_setCell]; exact Nat.le_refl _)
  have kF : (((((w2.setCell ⟨w.heap.size + 1 + 1, 3, none⟩ (.slice A3 n3 c3)).setCell ⟨w.heap.size + 1, 0, none⟩ (.int .i64 v0)).setCell ⟨w.heap.size + 1, 1, none⟩ (.int .i64 v1)).setCell ⟨w.heap.size + 1, 2, none⟩ (.slice A2 n2 c2)).setCell ⟨w.heap.size + 1, 3, none⟩ (.slice A3 n3 c3)).heap[w.heap.size + 1]? = some (.cells #[.int .i64 v0, .int .i64 v1, .slice A2 n2 c2, .slice A3 n3 c3] 27 (0, 0)) := (heap_setCell_same _ _ _ _ _ _ (heap_setCell_same _ _ _ _ _ _ (heap_setCell_same _ _ _ _ _ _ (heap_setCell_same _ _ _ _ _ _ k1))))
  clear a0 b0 f0 r0 s0 a1 b1 f1 r1 s1 a2 b2 f2 r2 s2 a3 b3 f3 r3 s3
  have rF0 : (((((w2.setCell ⟨w.heap.size + 1 + 1, 3, none⟩ (.slice A3 n3 c3)).setCell ⟨w.heap.size + 1, 0, none⟩ (.int .i64 v0)).setCell ⟨w.heap.size + 1, 1, none⟩ (.int .i64 v1)).setCell ⟨w.heap.size + 1, 2, none⟩ (.slice A2 n2 c2)).setCell ⟨w.heap.size + 1, 3, none⟩ (.slice A3 n3 c3)).cell? ⟨w.heap.size + 1, 0, none⟩ = some (.int .i64 v0) := (cell_of_row _ _ 0 _ _ (0, 0) kF).trans rfl
  have rF1 : (((((w2.setCell ⟨w.heap.size + 1 + 1, 3, none⟩ (.slice A3 n3 c3)).setCell ⟨w.heap.size + 1, 0, none⟩ (.int .i64 v0)).setCell ⟨w.heap.size + 1, 1, none⟩ (.int .i64 v1)).setCell ⟨w.heap.size + 1, 2, none⟩ (.slice A2 n2 c2)).setCell ⟨w.heap.size + 1, 3, none⟩ (.slice A3 n3 c3)).cell? ⟨w.heap.size + 1, 1, none⟩ = some (.int .i64 v1) := (cell_of_row _ _ 1 _ _ (0, 0) kF).trans rfl
  have rF2 : (((((w2.setCell ⟨w.heap.size + 1 + 1, 3, none⟩ (.slice A3 n3 c3)).setCell ⟨w.heap.size + 1, 0, none⟩ (.int .i64 v0)).setCell ⟨w.heap.size + 1, 1, none⟩ (.int .i64 v1)).setCell ⟨w.heap.size + 1, 2, none⟩ (.slice A2 n2 c2)).setCell ⟨w.heap.size + 1, 3, none⟩ (.slice A3 n3 c3)).cell? ⟨w.heap.size + 1, 2, none⟩ = some (.slice A2 n2 c2) := (cell_of_row _ _ 2 _ _ (0, 0) kF).trans rfl
  have rF3 : (((((w2.setCell ⟨w.heap.size + 1 + 1, 3, none⟩ (.slice A3 n3 c3)).setCell ⟨w.heap.size + 1, 0, none⟩ (.int .i64 v0)).setCell ⟨w.heap.size + 1, 1, none⟩ (.int .i64 v1)).setCell ⟨w.heap.size + 1, 2, none⟩ (.slice A2 n2 c2)).setCell ⟨w.heap.size + 1, 3, none⟩ (.slice A3 n3 c3)).cell? ⟨w.heap.size + 1, 3, none⟩ = some (.slice A3 n3 c3) := (cell_of_row _ _ 3 _ _ (0, 0) kF).trans rfl
  clear hoF hb hz k0 k1 k2 kF q2 q3
  generalize (((((w2.setCell ⟨w.heap.size + 1 + 1, 3, none⟩ (.slice A3 n3 c3)).setCell ⟨w.heap.size + 1, 0, none⟩ (.int .i64 v0)).setCell ⟨w.heap.size + 1, 1, none⟩ (.int .i64 v1)).setCell ⟨w.heap.size + 1, 2, none⟩ (.slice A2 n2 c2)).setCell ⟨w.heap.size + 1, 3, none⟩ (.slice A3 n3 c3)) = WF at *
  refine bodyPost_ret (by simp [results, Tryz.results69, go_sem, rF0, rF1, rF2, rF3]; try rfl) rfl ?_
  exact ⟨(v0, v1, .slice A2 n2 c2, .slice A3 n3 c3), rfl, ⟨rfl, rfl, g2, g3⟩, hbF⟩

set_option maxHeartbeats 1600000 in
set_option maxRecDepth 100000 in
theorem eqLts_a {x y : CL} {d e : DL} {w : World} {lo hi lo' hi' : Nat} (h : ReadL w lo hi x d) (g : ReadL w lo' hi' y e) (hs : totL d ≤ 1048576) (gs : totL e ≤ 1048576) :
    Calls Tryz.prog 74 #[.agg #[.int .i64 x.1, .int .i64 x.2.1, x.2.2.1, x.2.2.2], .agg #[.int .i64 y.1, .int .i64 y.2.1, y.2.2.1, y.2.2.2]] w fun r w' => r = .returned (.bool (decide (d = e))) ∧ Below w.heap.size w w' := by
  obtain ⟨x0, x1, x2, x3⟩ := x
  obtain ⟨y0, y1, y2, y3⟩ := y
  obtain ⟨d0, d1, d2, d3⟩ := d
  obtain ⟨e0, e1, e2, e3⟩ := e
  obtain ⟨h0, h1, h2, h3⟩ := h
  obtain ⟨g0, g1, g2, g3⟩ := g
  dsimp only at *
  subst h0 g0
  subst h1 g1
  simp only [totL, totS] at hs gs
  have k0 : ((w.alloc (.cells #[.int .i64 x0, .int .i64 x1, x2, x3] 27)).alloc (.cells #[.int .i64 y0, .int .i64 y1, y2, y3] 27)).heap[w.heap.size]? = some (.cells #[.int .i64 x0, .int .i64 x1, x2, x3] 27 (0, 0)) := (Below.heap_alloc _ _ _ (by simp only [World.size_alloc]; omega)).trans (heap_alloc_new w _)
  have k1 : ((w.alloc (.cells #[.int .i64 x0, .int .i64 x1, x2, x3] 27)).alloc (.cells #[.int .i64 y0, .int .i64 y1, y2, y3] 27)).heap[w.heap.size + 1]? = some (.cells #[.int .i64 y0, .int .i64 y1, y2, y3] 27 (0, 0)) := by have h := heap_alloc_new (w.alloc (.cells #[.int .i64 x0, .int .i64 x1, x2, x3] 27)) (.cells #[.int .i64 y0, .int .i64 y1, y2, y3] 27); rw [World.size_alloc] at h; exact h
  have hb : Below w.heap.size w ((w.alloc (.cells #[.int .i64 x0, .int .i64 x1, x2, x3] 27)).alloc (.cells #[.int .i64 y0, .int .i64 y1, y2, y3] 27)) := ((Below.refl _ _).alloc (Nat.le_refl _) _).alloc (by simp only [World.size_alloc]; omega) _
  have hz : w.heap.size + 1 < ((w.alloc (.cells #[.int .i64 x0, .int .i64 x1, x2, x3] 27)).alloc (.cells #[.int .i64 y0, .int .i64 y1, y2, y3] 27)).heap.size := by simp only [World.size_alloc]; omega
  have q2 := hide (fun W (hW : Below w.heap.size w W) => eqStringS_a (h2.below hW (.inr (Nat.le_refl _))) (g2.below hW (.inr (Nat.le_refl _))) (by omega) (by omega))
  have q3 := hide (fun W (hW : Below w.heap.size w W) => eqEdgeS_a (h3.below hW (.inr (Nat.le_refl _))) (g3.below hW (.inr (Nat.le_refl _))) (by omega) (by omega))
  clear h2 g2 h3 g3
  by_cases he : (x0, x1, d2, d3) = (y0, y1, e2, e3)
  · have hE := hide he
    simp only [Prod.mk.injEq] at he
    obtain ⟨z0, z1, z2, z3⟩ := he
    subst z0
    subst z1
    skip
    go_enter Tryz.func74, Tryz.ntmps74
    go_wp2_with fail
    try generalize ((w.alloc (.cells #[.int .i64 x0, .int .i64 x1, x2, x3] 27)).alloc (.cells #[.int .i64 x0, .int .i64 x1, y2, y3] 27)) = W at *
    have qq := q2.out _ hb
    rw [decide_eq_true z2] at qq
    replace qq := hide qq
    refine qq.out.mono ?_
    rintro r w1 ⟨rfl, hb1⟩
    clear qq
    replace k0 := (hb1.block _ (by omega)).trans k0
    replace k1 := (hb1.block _ (by omega)).trans k1
    replace hb := hb.trans (hb1.mono hb.size)
    replace hz := Nat.lt_of_lt_of_le hz hb1.size
    clear hb1
    have a0 : w1.cell? ⟨w.heap.size, 0, none⟩ = some (.int .i64 x0) := (cell_of_row _ _ 0 _ _ (0, 0) k0).trans rfl
    have b0 : w1.cell? ⟨w.heap.size + 1, 0, none⟩ = some (.int .i64 x0) := (cell_of_row _ _ 0 _ _ (0, 0) k1).trans rfl
    have a1 : w1.cell? ⟨w.heap.size, 1, none⟩ = some (.int .i64 x1) := (cell_of_row _ _ 1 _ _ (0, 0) k0).trans rfl
    have b1 : w1.cell? ⟨w.heap.size + 1, 1, none⟩ = some (.int .i64 x1) := (cell_of_row _ _ 1 _ _ (0, 0) k1).trans rfl
    have a2 : w1.cell? ⟨w.heap.size, 2, none⟩ = some (x2) := (cell_of_row _ _ 2 _ _ (0, 0) k0).trans rfl
    have b2 : w1.cell? ⟨w.heap.size + 1, 2, none⟩ = some (y2) := (cell_of_row _ _ 2 _ _ (0, 0) k1).trans rfl
    have a3 : w1.cell? ⟨w.heap.size, 3, none⟩ = some (x3) := (cell_of_row _ _ 3 _ _ (0, 0) k0).trans rfl
    have b3 : w1.cell? ⟨w.heap.size + 1, 3, none⟩ = some (y3) := (cell_of_row _ _ 3 _ _ (0, 0) k1).trans rfl
    go_wp2_with fail
    have qq := q3.out _ hb
    rw [decide_eq_true z3] at qq
    replace qq := hide qq
    refine qq.out.mono ?_
    rintro r w2 ⟨rfl, hb1⟩
    clear a0 b0 a1 b1 a2 b2 a3 b3
    clear qq
    replace k0 := (hb1.block _ (by omega)).trans k0
    replace k1 := (hb1.block _ (by omega)).trans k1
    replace hb := hb.trans (hb1.mono hb.size)
    replace hz := Nat.lt_of_lt_of_le hz hb1.size
    clear hb1
    have a0 : w2.cell? ⟨w.heap.size, 0, none⟩ = some (.int .i64 x0) := (cell_of_row _ _ 0 _ _ (0, 0) k0).trans rfl
    have b0 : w2.cell? ⟨w.heap.size + 1, 0, none⟩ = some (.int .i64 x0) := (cell_of_row _ _ 0 _ _ (0, 0) k1).trans rfl
    have a1 : w2.cell? ⟨w.heap.size, 1, none⟩ = some (.int .i64 x1) := (cell_of_row _ _ 1 _ _ (0, 0) k0).trans rfl
    have b1 : w2.cell? ⟨w.heap.size + 1, 1, none⟩ = some (.int .i64 x1) := (cell_of_row _ _ 1 _ _ (0, 0) k1).trans rfl
    have a2 : w2.cell? ⟨w.heap.size, 2, none⟩ = some (x2) := (cell_of_row _ _ 2 _ _ (0, 0) k0).trans rfl
    have b2 : w2.cell? ⟨w.heap.size + 1, 2, none⟩ = some (y2) := (cell_of_row _ _ 2 _ _ (0, 0) k1).trans rfl
    have a3 : w2.cell? ⟨w.heap.size, 3, none⟩ = some (x3) := (cell_of_row _ _ 3 _ _ (0, 0) k0).trans rfl
    have b3 : w2.cell? ⟨w.heap.size + 1, 3, none⟩ = some (y3) := (cell_of_row _ _ 3 _ _ (0, 0) k1).trans rfl
    go_wp2_with fail
    go_ret
    exact ⟨by rw [decide_eq_true hE.out]; rfl, hb⟩
  · have hN : Hid (¬ ((x0, x1, d2, d3) = (y0, y1, e2, e3))) := he
    by_cases c0 : x0 = y0
    · subst c0
      have z0 : x0 = x0 := rfl
      replace z0 := hide z0
      by_cases c1 : x1 = y1
      · subst c1
        have z1 : x1 = x1 := rfl
        replace z1 := hide z1
        by_cases c2 : d2 = e2
        · have z2 := hide c2
          clear c2
          by_cases c3 : d3 = e3
          · have z3 := hide c3
            clear c3
            exact absurd (Prod.ext z0.out (Prod.ext z1.out (Prod.ext z2.out (z3.out)))) hN.out
          · replace c3 := hide c3
            skip
            go_enter Tryz.func74, Tryz.ntmps74
            go_wp2_with fail
            try generalize ((w.alloc (.cells #[.int .i64 x0, .int .i64 x1, x2, x3] 27)).alloc (.cells #[.int .i64 x0, .int .i64 x1, y2, y3] 27)) = W at *
            have qq := q2.out _ hb
            rw [decide_eq_true z2.out] at qq
            replace qq := hide qq
            refine qq.out.mono ?_
            rintro r w1 ⟨rfl, hb1⟩
            clear qq
            replace k0 := (hb1.block _ (by omega)).trans k0
            replace k1 := (hb1.block _ (by omega)).trans k1
            replace hb := hb.trans (hb1.mono hb.size)
            replace hz := Nat.lt_of_lt_of_le hz hb1.size
            clear hb1
            have a0 : w1.cell? ⟨w.heap.size, 0, none⟩ = some (.int .i64 x0) := (cell_of_row _ _ 0 _ _ (0, 0) k0).trans rfl
            have b0 : w1.cell? ⟨w.heap.size + 1, 0, none⟩ = some (.int .i64 x0) := (cell_of_row _ _ 0 _ _ (0, 0) k1).trans rfl
            have a1 : w1.cell? ⟨w.heap.size, 1, none⟩ = some (.int .i64 x1) := (cell_of_row _ _ 1 _ _ (0, 0) k0).trans rfl
            have b1 : w1.cell? ⟨w.heap.size + 1, 1, none⟩ = some (.int .i64 x1) := (cell_of_row _ _ 1 _ _ (0, 0) k1).trans rfl
            have a2 : w1.cell? ⟨w.heap.size, 2, none⟩ = some (x2) := (cell_of_row _ _ 2 _ _ (0, 0) k0).trans rfl
            have b2 : w1.cell? ⟨w.heap.size + 1, 2, none⟩ = some (y2) := (cell_of_row _ _ 2 _ _ (0, 0) k1).trans rfl
            have a3 : w1.cell? ⟨w.heap.size, 3, none⟩ = some (x3) := (cell_of_row _ _ 3 _ _ (0, 0) k0).trans rfl
            have b3 : w1.cell? ⟨w.heap.size + 1, 3, none⟩ = some (y3) := (cell_of_row _ _ 3 _ _ (0, 0) k1).trans rfl
            go_wp2_with fail
            have qq := q3.out _ hb
            rw [decide_eq_false c3.out] at qq
            replace qq := hide qq
            refine qq.out.mono ?_
            rintro r w2 ⟨rfl, hb1⟩
            clear a0 b0 a1 b1 a2 b2 a3 b3
            clear qq
            replace k0 := (hb1.block _ (by omega)).trans k0
            replace k1 := (hb1.block _ (by omega)).trans k1
            replace hb := hb.trans (hb1.mono hb.size)
            replace hz := Nat.lt_of_lt_of_le hz hb1.size
            clear hb1
            have a0 : w2.cell? ⟨w.heap.size, 0, none⟩ = some (.int .i64 x0) := (cell_of_row _ _ 0 _ _ (0, 0) k0).trans rfl
            have b0 : w2.cell? ⟨w.heap.size + 1, 0, none⟩ = some (.int .i64 x0) := (cell_of_row _ _ 0 _ _ (0, 0) k1).trans rfl
            have a1 : w2.cell? ⟨w.heap.size, 1, none⟩ = some (.int .i64 x1) := (cell_of_row _ _ 1 _ _ (0, 0) k0).trans rfl
            have b1 : w2.cell? ⟨w.heap.size + 1, 1, none⟩ = some (.int .i64 x1) := (cell_of_row _ _ 1 _ _ (0, 0) k1).trans rfl
            have a2 : w2.cell? ⟨w.heap.size, 2, none⟩ = some (x2) := (cell_of_row _ _ 2 _ _ (0, 0) k0).trans rfl
            have b2 : w2.cell? ⟨w.heap.size + 1, 2, none⟩ = some (y2) := (cell_of_row _ _ 2 _ _ (0, 0) k1).trans rfl
            have a3 : w2.cell? ⟨w.heap.size, 3, none⟩ = some (x3) := (cell_of_row _ _ 3 _ _ (0, 0) k0).trans rfl
            have b3 : w2.cell? ⟨w.heap.size + 1, 3, none⟩ = some (y3) := (cell_of_row _ _ 3 _ _ (0, 0) k1).trans rfl
            go_wp2_with fail
            go_ret
            exact ⟨by first | (rw [decide_eq_false hN.out]; rfl) | rfl, hb⟩
        · replace c2 := hide c2
          clear q3
          go_enter Tryz.func74, Tryz.ntmps74
          go_wp2_with fail
          try generalize ((w.alloc (.cells #[.int .i64 x0, .int .i64 x1, x2, x3] 27)).alloc (.cells #[.int .i64 x0, .int .i64 x1, y2, y3] 27)) = W at *
          have qq := q2.out _ hb
          rw [decide_eq_false c2.out] at qq
          replace qq := hide qq
          refine qq.out.mono ?_
          rintro r w1 ⟨rfl, hb1⟩
          clear qq
          replace k0 := (hb1.block _ (by omega)).trans k0
          replace k1 := (hb1.block _ (by omega)).trans k1
          replace hb := hb.trans (hb1.mono hb.size)
          replace hz := Nat.lt_of_lt_of_le hz hb1.size
          clear hb1
          have a0 : w1.cell? ⟨w.heap.size, 0, none⟩ = some (.int .i64 x0) := (cell_of_row _ _ 0 _ _ (0, 0) k0).trans rfl
          have b0 : w1.cell? ⟨w.heap.size + 1, 0, none⟩ = some (.int .i64 x0) := (cell_of_row _ _ 0 _ _ (0, 0) k1).trans rfl
          have a1 : w1.cell? ⟨w.heap.size, 1, none⟩ = some (.int .i64 x1) := (cell_of_row _ _ 1 _ _ (0, 0) k0).trans rfl
          have b1 : w1.cell? ⟨w.heap.size + 1, 1, none⟩ = some (.int .i64 x1) := (cell_of_row _ _ 1 _ _ (0, 0) k1).trans rfl
          have a2 : w1.cell? ⟨w.heap.size, 2, none⟩ = some (x2) := (cell_of_row _ _ 2 _ _ (0, 0) k0).trans rfl
          have b2 : w1.cell? ⟨w.heap.size + 1, 2, none⟩ = some (y2) := (cell_of_row _ _ 2 _ _ (0, 0) k1).trans rfl
          have a3 : w1.cell? ⟨w.heap.size, 3, none⟩ = some (x3) := (cell_of_row _ _ 3 _ _ (0, 0) k0).trans rfl
          have b3 : w1.cell? ⟨w.heap.size + 1, 3, none⟩ = some (y3) := (cell_of_row _ _ 3 _ _ (0, 0) k1).trans rfl
          go_wp2_with fail
          go_ret
          exact ⟨by first | (rw [decide_eq_false hN.out]; rfl) | rfl, hb⟩
      · have cc : (x1 != y1) = true := by rw [bne_iff_ne]; exact c1
        clear c1
        clear q2 q3
        go_enter Tryz.func74, Tryz.ntmps74
        go_wp2_with fail
        try generalize ((w.alloc (.cells #[.int .i64 x0, .int .i64 x1, x2, x3] 27)).alloc (.cells #[.int .i64 x0, .int .i64 y1, y2, y3] 27)) = W at *
        go_ret
        exact ⟨by first | (rw [decide_eq_false hN.out]; rfl) | rfl, hb⟩
    · have cc : (x0 != y0) = true := by rw [bne_iff_ne]; exact c0
      clear c0
      clear q2 q3
      go_enter Tryz.func74, Tryz.ntmps74
      go_wp2_with fail
      try generalize ((w.alloc (.cells #[.int .i64 x0, .int .i64 x1, x2, x3] 27)).alloc (.cells #[.int .i64 y0, .int .i64 y1, y2, y3] 27)) = W at *
      go_ret
      exact ⟨by first | (rw [decide_eq_false hN.out]; rfl) | rfl, hb⟩


end Go.Proofs.YtnhomkmfbngmgaaGreatDoor

namespace Go.Proofs.YtnhomkmfbngmgaaGreatDoor
open Go.ChangeShapes Go.WideShapes Go.ChangeAt Go.RowKit
set_option linter.unusedVariables false

theorem below_drewN (w : World) (k : Nat) : Below w.heap.size w (w.drewN k) := ⟨rfl, rfl, rfl, Nat.le_refl _, fun _ _ => rfl⟩

theorem l00In_calls (n lo hi : Int) (w : World) :
    Calls Tryz.prog 144 #[.int .i64 n, .int .i64 lo, .int .i64 hi] w fun e w' => e = .returned (.bool (inB n lo hi)) ∧ w = w' := by
  by_cases h : lo ≤ n
  · have hr := hide (show inB n lo hi = decide (n ≤ hi) from by unfold inB; simp [h])
    go_enter Tryz.func144, Tryz.ntmps144
    go_wp2
    go_ret
    exact ⟨ret_b (by rw [hr.out]), rfl⟩
  · have hr := hide (show inB n lo hi = false from by unfold inB; simp [h])
    go_enter Tryz.func144, Tryz.ntmps144
    go_wp2
    go_ret
    exact ⟨ret_b (by rw [hr.out]), rfl⟩
theorem within_calls (n lo hi : Int) (w : World) :
    Calls Tryz.prog 118 #[.int .i64 n, .int .i64 lo, .int .i64 hi] w fun e w' => e = .returned (.bool (inB n lo hi)) ∧ w = w' := by
  by_cases h : lo ≤ n
  · have hr := hide (show inB n lo hi = decide (n ≤ hi) from by unfold inB; simp [h])
    go_enter Tryz.func118, Tryz.ntmps118
    go_wp2
    go_ret
    exact ⟨ret_b (by rw [hr.out]), rfl⟩
  · have hr := hide (show inB n lo hi = false from by unfold inB; simp [h])
    go_enter Tryz.func118, Tryz.ntmps118
    go_wp2
    go_ret
    exact ⟨ret_b (by rw [hr.out]), rfl⟩
theorem index_calls (x : Int) (m : Nat) (hm : m ≤ 1048576) (w : World) :
    Calls Tryz.prog 121 #[.int .i64 x, .int .i64 m] w fun e w' => e = .returned (.bool (inB x 0 ((m : Int) - 1))) ∧ w = w' := by
  go_enter Tryz.func121, Tryz.ntmps121
  go_wp2_with (go_at_call 118; refine (within_calls _ _ _ _).mono ?_; rintro e w' ⟨rfl, rfl⟩)
  go_ret
  exact ⟨rfl, rfl⟩

theorem inB_true {n lo hi : Int} : inB n lo hi = true ↔ lo ≤ n ∧ n ≤ hi := by unfold inB; simp
theorem inB_false {n lo hi : Int} : inB n lo hi = false ↔ ¬ (lo ≤ n ∧ n ≤ hi) := by rw [← inB_true]; simp

end Go.Proofs.YtnhomkmfbngmgaaGreatDoor

namespace Go.Proofs.YtnhomkmfbngmgaaGreatDoor
open Go.ChangeShapes Go.WideShapes Go.ChangeAt Go.RowKit
set_option linter.unusedVariables false

def smallB (c : Int) : Bool := decide (97 ≤ c) && decide (c ≤ 122)
def digitB (c : Int) : Bool := decide (48 ≤ c) && decide (c ≤ 57)

theorem isDigit_calls (c : Int) (w : World) : Calls Tryz.prog 306 #[.int .u8 c] w fun e w' => e = .returned (.bool (digitB c)) ∧ w = w' := by
  by_cases h1 : 48 ≤ c <;> by_cases h2 : c ≤ 57
  all_goals
    go_enter Tryz.func306, Tryz.ntmps306
    go_wp2
    go_ret
    exact ⟨by simp [digitB, h1, h2], rfl⟩
theorem l01Small_calls (c : Int) (w : World) : Calls Tryz.prog 387 #[.int .u8 c] w fun e w' => e = .returned (.bool (smallB c)) ∧ w = w' := by
  by_cases h1 : 97 ≤ c <;> by_cases h2 : c ≤ 122
  all_goals
    go_enter Tryz.func387, Tryz.ntmps387
    go_wp2
    go_ret
    exact ⟨by simp [smallB, h1, h2], rfl⟩
theorem l01Digit_calls (c : Int) (w : World) : Calls Tryz.prog 388 #[.int .u8 c] w fun e w' => e = .returned (.bool (digitB c)) ∧ w = w' := by
  by_cases h1 : 48 ≤ c <;> by_cases h2 : c ≤ 57
  all_goals
    go_enter Tryz.func388, Tryz.ntmps388
    go_wp2
    go_ret
    exact ⟨by simp [digitB, h1, h2], rfl⟩

/-- Byte k spoils a name. -/
def badX (k : Nat) (x : Int) : Bool := !(smallB x) && (decide (k = 0) || !(digitB x))
def badAt (s : ByteArray) (k : Nat) : Bool := match s.data.toList[k]? with | some c => badX k (c.toNat : Int) | none => false
def nameB (s : ByteArray) : Bool := (List.range s.size).all (fun k => !(badAt s k)) && decide (1 ≤ s.size ∧ s.size ≤ 10)
theorem badAt_get (s : ByteArray) (k : Nat) (h : k < s.size) : badAt s k = badX k (s[k].toNat : Int) := by
  unfold badAt
  have : s.data.toList[k]? = some s[k] := by
    rw [List.getElem?_eq_getElem (by simpa using h)]
    rfl
  rw [this]
theorem nameB_bad {s : ByteArray} {k : Nat} (h : k < s.size) (hb : badX k (s[k].toNat : Int) = true) : nameB s = false := by
  unfold nameB
  rw [Bool.and_eq_false_iff]
  left
  rw [← Bool.not_eq_true, List.all_eq_true]
  intro hc
  have := hc k (List.mem_range.2 h)
  rw [badAt_get s k h, hb] at this
  cases this
theorem nameB_good {s : ByteArray} (h : ∀ j (hj : j < s.size), badX j (s[j].toNat : Int) = false) : nameB s = decide (1 ≤ s.size ∧ s.size ≤ 10) := by
  unfold nameB
  rw [(List.all_eq_true.2 fun k hk => by rw [badAt_get s k (List.mem_range.1 hk), h k (List.mem_range.1 hk)]; rfl), Bool.true_and]

set_option maxHeartbeats 800000 in
set_option maxRecDepth 100000 in
theorem isName_calls (s : ByteArray) (w : World) (hs : s.size ≤ maxLen) : Calls Tryz.prog 250 #[.string s] w fun e w' => e = .returned (.bool (nameB s)) ∧ w = w' := by
  unfold maxLen at hs
  have hs63 : s.size ≤ 9223372036854775807 := by omega
  go_enter Tryz.func250, Tryz.ntmps250
  go_wp2
  go_loop [7] (fun i => ∃ k : Nat, k ≤ s.size ∧ i = .int .i64 k ∧ Hid (∀ j (hj : j < s.size), j < k → badX j (s[j].toNat : Int) = false)) (fun i => s.size - (intOf i).toNat)
  case atStart => exact ⟨0, Nat.zero_le _, rfl, fun j _ h => absurd h (by omega)⟩
  case round =>
    obtain ⟨k, hk, rfl, ha⟩ := hrel
    by_cases hlt : k < s.size
    · have hbad := hide (fun hb => nameB_bad (s := s) hlt hb)
      have hnext : Hid (badX k (s[k].toNat : Int) = false → ∀ j (hj : j < s.size), j < k + 1 → badX j (s[j].toNat : Int) = false) := fun hg j hj hjk => by
        rcases Nat.lt_or_ge j k with h1 | h1
        · exact ha.out j hj h1
        · have : j = k := by omega
          subst this
          exact hg
      have hq := hide (isDigit_calls (s[k].toNat : Int) w)
      generalize hc : (s[k].toNat : Int) = c at *
      have hgetk : ∀ h : k < s.size, (s[k].toNat : Int) = c := fun _ => hc
      by_cases h1 : 97 ≤ c ∧ c ≤ 122
      · have h1a := h1.1
        have h1b := h1.2
        have hg : Hid (badX k c = false) := by show _ = _; simp [badX, smallB, h1a, h1b]
        clear h1
        go_wp2_with fail
        go_round
        case rel => exact ⟨k + 1, by omega, by go_num, hnext.out hg.out⟩
        case measure => simp [intOf]; omega
      · by_cases h1a : 97 ≤ c
        · have h1b : ¬ c ≤ 122 := fun h => h1 ⟨h1a, h⟩
          clear h1
          have hsm : Hid (smallB c = false) := by show _ = _; simp [smallB]; omega
          by_cases hk0 : k = 0
          · have hv := hide (hbad.out (by rw [hk0]; simp [badX, hsm.out]))
            subst hk0
            clear hnext hq
            go_wp2_with fail
            go_ret
            exact ⟨ret_b (by rw [hv.out]), rfl⟩
          · have hki : ((k : Int) == 0) = false := by rw [beq_eq_false_iff_ne]; omega
            by_cases hd : digitB c = true
            · have hqq := hq.out
              rw [hd] at hqq
              replace hqq := hide hqq
              have hg : Hid (badX k c = false) := by show _ = _; simp [badX, hsm.out, hk0, hd]
              clear hd hq hk0
              go_wp2_with (go_at_call 306; (with_reducible refine hqq.out.mono ?_); rintro e w1 ⟨rfl, rfl⟩)
              go_round
              case rel => exact ⟨k + 1, by omega, by go_num, hnext.out hg.out⟩
              case measure => simp [intOf]; omega
            · have hqq := hq.out
              replace hd := Bool.eq_false_iff.2 hd
              rw [hd] at hqq
              replace hqq := hide hqq
              have hv := hide (hbad.out (by simp [badX, hsm.out, hd]))
              clear hd hq hk0 hnext
              go_wp2_with (go_at_call 306; (with_reducible refine hqq.out.mono ?_); rintro e w1 ⟨rfl, rfl⟩)
              go_ret
              exact ⟨ret_b (by rw [hv.out]), rfl⟩
        · clear h1
          have hsm : Hid (smallB c = false) := by show _ = _; simp [smallB]; omega
          by_cases hk0 : k = 0
          · have hv := hide (hbad.out (by rw [hk0]; simp [badX, hsm.out]))
            subst hk0
            clear hnext hq
            go_wp2_with fail
            go_ret
            exact ⟨ret_b (by rw [hv.out]), rfl⟩
          · have hki : ((k : Int) == 0) = false := by rw [beq_eq_false_iff_ne]; omega
            by_cases hd : digitB c = true
            · have hqq := hq.out
              rw [hd] at hqq
              replace hqq := hide hqq
              have hg : Hid (badX k c = false) := by show _ = _; simp [badX, hsm.out, hk0, hd]
              clear hd hq hk0
              go_wp2_with (go_at_call 306; (with_reducible refine hqq.out.mono ?_); rintro e w1 ⟨rfl, rfl⟩)
              go_round
              case rel => exact ⟨k + 1, by omega, by go_num, hnext.out hg.out⟩
              case measure => simp [intOf]; omega
            · have hqq := hq.out
              replace hd := Bool.eq_false_iff.2 hd
              rw [hd] at hqq
              replace hqq := hide hqq
              have hv := hide (hbad.out (by simp [badX, hsm.out, hd]))
              clear hd hq hk0 hnext
              go_wp2_with (go_at_call 306; (with_reducible refine hqq.out.mono ?_); rintro e w1 ⟨rfl, rfl⟩)
              go_ret
              exact ⟨ret_b (by rw [hv.out]), rfl⟩
    · have hkn : k = s.size := by omega
      have hv := hide (nameB_good (s := s) (fun j hj => ha.out j hj (by omega)))
      by_cases z1 : 1 ≤ s.size
      · by_cases z2 : s.size ≤ 10
        · have hvv : Hid (nameB s = true) := by show _ = _; rw [hv.out]; simp [z1, z2]
          have z1i : (1 : Int) ≤ (s.size : Int) := by omega
          have z2i : (s.size : Int) ≤ 10 := by omega
          clear hv ha
          go_wp2_with fail
          go_ret
          exact ⟨ret_b (by rw [hvv.out]), rfl⟩
        · have hvv : Hid (nameB s = false) := by show _ = _; rw [hv.out]; simp [z2]
          have z1i : (1 : Int) ≤ (s.size : Int) := by omega
          have z2i : ¬ (s.size : Int) ≤ 10 := by omega
          clear hv ha
          go_wp2_with fail
          go_ret
          exact ⟨ret_b (by rw [hvv.out]), rfl⟩
      · have hvv : Hid (nameB s = false) := by show _ = _; rw [hv.out]; simp; omega
        have z1i : ¬ (1 : Int) ≤ (s.size : Int) := by omega
        clear hv ha
        go_wp2_with fail
        go_ret
        exact ⟨ret_b (by rw [hvv.out]), rfl⟩

theorem toList_len (s : ByteArray) : s.toList.length = s.size := by
  obtain ⟨⟨l⟩⟩ := s
  have e : (ByteArray.mk ⟨l⟩).toList = l := ByteArray.toList_mk l
  rw [e]
  rfl

set_option maxHeartbeats 800000 in
set_option maxRecDepth 100000 in
theorem l01Name_calls (s : ByteArray) (w : World) (hs : s.size ≤ maxLen) : Calls Tryz.prog 379 #[.string s] w fun e w' => e = .returned (.bool (nameB s)) ∧ w = w' := by
  unfold maxLen at hs
  have hs63 : s.size ≤ 9223372036854775807 := by omega
  rcases Nat.eq_zero_or_pos s.size with h0 | h0
  · have e0 : s.toList = [] := List.eq_nil_of_length_eq_zero (by rw [toList_len, h0])
    have hv : Hid (nameB s = false) := by show _ = _; unfold nameB; rw [Bool.and_eq_false_iff]; right; simp; omega
    clear h0
    go_enter Tryz.func379, Tryz.ntmps379
    go_wp2_with fail
    go_ret
    exact ⟨ret_b (by rw [hv.out]), rfl⟩
  have e0 : ¬ s.toList = [] := fun e => by have := toList_len s; rw [e] at this; simp at this; omega
  have e1 : s.toList.isEmpty = false := by rw [← Bool.not_eq_true, List.isEmpty_iff]; exact e0
  by_cases h1 : 10 < s.size
  · have h1i : (10 : Int) < (s.size : Int) := by omega
    have hv : Hid (nameB s = false) := by show _ = _; unfold nameB; rw [Bool.and_eq_false_iff]; right; simp; omega
    go_enter Tryz.func379, Tryz.ntmps379
    go_wp2_with fail
    go_ret
    exact ⟨ret_b (by rw [hv.out]), rfl⟩
  have h1i : ¬ (10 : Int) < (s.size : Int) := by omega
  have q0 := l01Small_calls (s[0].toNat : Int) w
  by_cases c0 : smallB (s[0].toNat : Int) = true
  · rw [c0] at q0
    replace q0 := hide q0
    replace c0 := hide c0
    go_enter Tryz.func379, Tryz.ntmps379
    go_wp2_with (first | (go_at_call 387; (with_reducible refine q0.out.mono ?_); rintro e w1 ⟨rfl, rfl⟩))
    go_loop [3] (fun i => ∃ k : Nat, k ≤ s.size ∧ i = .int .i64 k ∧ Hid (∀ j (hj : j < s.size), j < k → badX j (s[j].toNat : Int) = false)) (fun i => s.size - (intOf i).toNat)
    case atStart => exact ⟨0, Nat.zero_le _, rfl, fun j _ h => absurd h (by omega)⟩
    case round =>
      obtain ⟨k, hk, rfl, ha⟩ := hrel
      clear q0
      by_cases hlt : k < s.size
      · have hbad := hide (fun hb => nameB_bad (s := s) hlt hb)
        have hnext : Hid (badX k (s[k].toNat : Int) = false → ∀ j (hj : j < s.size), j < k + 1 → badX j (s[j].toNat : Int) = false) := fun hg j hj hjk => by
          rcases Nat.lt_or_ge j k with h1 | h1
          · exact ha.out j hj h1
          · have : j = k := by omega
            subst this
            exact hg
        have hz : Hid (k = 0 → smallB (s[k].toNat : Int) = true) := fun hk0 => by subst hk0; exact c0.out
        have hq1 := l01Small_calls (s[k].toNat : Int) w
        have hq2 := l01Digit_calls (s[k].toNat : Int) w
        clear c0 ha
        generalize hc : (s[k].toNat : Int) = c at *
        have hgetk : ∀ h : k < s.size, (s[k].toNat : Int) = c := fun _ => hc
        by_cases hsm : smallB c = true
        · rw [hsm] at hq1
          replace hq1 := hide hq1
          have hg : Hid (badX k c = false) := by show _ = _; simp [badX, hsm]
          clear hsm hq2 hbad hz
          go_wp2_with (first | (go_at_call 387; (with_reducible refine hq1.out.mono ?_); rintro e w1 ⟨rfl, rfl⟩))
          go_round
          case rel => exact ⟨k + 1, by omega, by go_num, hnext.out hg.out⟩
          case measure => simp [intOf]; omega
        · replace hsm := Bool.eq_false_iff.2 hsm
          rw [hsm] at hq1
          replace hq1 := hide hq1
          have hk0 : Hid (¬ k = 0) := fun h => by have := hz.out h; rw [hsm] at this; cases this
          by_cases hd : digitB c = true
          · rw [hd] at hq2
            replace hq2 := hide hq2
            have hg : Hid (badX k c = false) := by show _ = _; simp [badX, hsm, hk0.out, hd]
            clear hsm hd hbad hz
            go_wp2_with (first | (go_at_call 387; (with_reducible refine hq1.out.mono ?_); rintro e w1 ⟨rfl, rfl⟩) | (go_at_call 388; (with_reducible refine hq2.out.mono ?_); rintro e w1 ⟨rfl, rfl⟩))
            go_round
            case rel => exact ⟨k + 1, by omega, by go_num, hnext.out hg.out⟩
            case measure => simp [intOf]; omega
          · replace hd := Bool.eq_false_iff.2 hd
            rw [hd] at hq2
            replace hq2 := hide hq2
            have hv := hide (hbad.out (by simp [badX, hsm, hd]))
            clear hsm hd hbad hz hnext
            go_wp2_with (first | (go_at_call 387; (with_reducible refine hq1.out.mono ?_); rintro e w1 ⟨rfl, rfl⟩) | (go_at_call 388; (with_reducible refine hq2.out.mono ?_); rintro e w1 ⟨rfl, rfl⟩))
            go_ret
            exact ⟨ret_b (by rw [hv.out]), rfl⟩
      · have hkn : k = s.size := by omega
        have hv : Hid (nameB s = true) := by show _ = _; rw [nameB_good (s := s) (fun j hj => ha.out j hj (by omega))]; simp; omega
        clear ha c0
        go_wp2_with fail
        go_ret
        exact ⟨ret_b (by rw [hv.out]), rfl⟩
  · replace c0 := Bool.eq_false_iff.2 c0
    rw [c0] at q0
    replace q0 := hide q0
    have hv := hide (nameB_bad (s := s) h0 (by simp [badX, c0]))
    clear c0
    go_enter Tryz.func379, Tryz.ntmps379
    go_wp2_with (first | (go_at_call 387; (with_reducible refine q0.out.mono ?_); rintro e w1 ⟨rfl, rfl⟩))
    go_ret
    exact ⟨ret_b (by rw [hv.out]), rfl⟩

end Go.Proofs.YtnhomkmfbngmgaaGreatDoor

namespace Go.Proofs.YtnhomkmfbngmgaaGreatDoor
open Go.ChangeShapes Go.WideShapes Go.ChangeAt Go.RowKit
set_option linter.unusedVariables false

structure Good (w : World) : Prop where
  shape : w.ShapedOpen Tryz.prog
  tab : Lib.TabIs Tryz.prog w "internal/strconv.uint64pow10" .u64 Lib.pow10Tab
  syn : ∃ tp p, w.var? Tryz.prog "strconv.ErrSyntax" = some #[.iface tp p]
def Env (w : World) : Prop := ∃ W0, Good W0 ∧ Below W0.heap.size W0 w
theorem Env.of {w : World} (h : Good w) : Env w := ⟨w, h, Below.refl _ _⟩
theorem Env.below {w w' : World} {B : Nat} (h : Env w) (hb : Below B w w') (hB : w.heap.size ≤ B) : Env w' := by
  obtain ⟨W0, h0, h1⟩ := h
  have hs := h1.size
  exact ⟨W0, h0, h1.trans (hb.mono (by omega))⟩
theorem var_lt {W : World} {n : String} {cs : Array Value} {g : Nat} (hg : Tryz.prog.globalNamed n = some g) (hv : W.var? Tryz.prog n = some cs) : g < W.heap.size := by
  unfold World.var? at hv
  rw [hg] at hv
  rcases Nat.lt_or_ge g W.heap.size with h | h
  · exact h
  · simp [Array.getElem?_eq_none h] at hv
set_option maxRecDepth 100000 in
theorem Env.good {w : World} (h : Env w) : Good w := by
  obtain ⟨W0, h0, h1⟩ := h
  have hblk : ∀ {k : Nat} {o : Obj}, W0.heap[k]? = some o → w.heap[k]? = some o := fun {k o} hk => (h1.block k (Array.getElem?_eq_some_iff.1 hk).1).trans hk
  obtain ⟨g1, e1⟩ : ∃ g, Tryz.prog.globalNamed "internal/strconv.uint64pow10" = some g := Option.isSome_iff_exists.1 (by kernel_rfl)
  obtain ⟨g2, e2⟩ : ∃ g, Tryz.prog.globalNamed "strconv.ErrSyntax" = some g := Option.isSome_iff_exists.1 (by kernel_rfl)
  refine ⟨⟨fun g zero t hg hr => ?_, fun k hk1 hk2 => ?_⟩, ?_, ?_⟩
  · obtain ⟨cs, a, b, c⟩ := h0.shape.1 g zero t hg hr
    exact ⟨cs, hblk a, b, fun hb => Row.ok_of_shape (fun bb x hx => by
      unfold World.shape? at hx ⊢
      rcases Nat.lt_or_ge bb W0.heap.size with h | h
      · rw [h1.block bb h]; exact hx
      · simp [Array.getElem?_eq_none h] at hx) (c hb)⟩
  · obtain ⟨o, o2, a, b⟩ := h0.shape.2 k hk1 hk2
    exact ⟨o, o2, hblk a, b⟩
  · exact var?_below h1 e1 (var_lt e1 h0.tab) h0.tab
  · obtain ⟨tp, p, hv⟩ := h0.syn
    exact ⟨tp, p, var?_below h1 e2 (var_lt e2 hv) hv⟩

set_option maxRecDepth 100000 in
theorem decimal_calls (n : Int) (h0 : -9223372036854775808 ≤ n) (h1 : n ≤ 9223372036854775807) (w : World) (he : Env w) :
    Calls Tryz.prog 56 #[.int .i64 n] w fun e w' => e = .returned (.string ⟨(Lib.itoa n).toArray⟩) ∧ Below w.heap.size w w' := by
  have q := hide (Tryz.strconv_FormatInt_10 n h0 h1 w he.good.tab)
  clear he
  go_enter Tryz.func56, Tryz.ntmps56
  go_wp2_with fail
  refine q.out.mono ?_
  rintro e w1 ⟨rfl, k, os, rfl⟩
  go_wp2_with fail
  go_ret
  exact ⟨rfl, Lib.below_grow _ _ (Nat.le_refl _) _ _⟩

theorem parse_short (l : List UInt8) (h : ¬ 18 < (Lib.trimPrefix l [45]).length) :
    (∃ v : Int, Lib.parseIntB 64 l = .ok v ∧ -9223372036854775808 ≤ v ∧ v ≤ 9223372036854775807) ∨ Lib.parseIntB 64 l = Lib.NumEnd.syntax := by
  cases l with
  | nil => exact .inr rfl
  | cons c r =>
    have key : ∀ t : List UInt8, t.length ≤ 18 → Lib.parseUintB 64 t = Lib.NumEnd.syntax ∨ ∃ u, Lib.parseUintB 64 t = .ok u ∧ u < 10 ^ 18 := by
      intro t ht
      rw [parseUintB_short t ht]
      by_cases hd : t ≠ [] ∧ t.all isDig = true
      · rw [if_pos hd]
        exact .inr ⟨_, rfl, valN_18 ht hd.2⟩
      · rw [if_neg hd]
        exact .inl rfl
    have h18 : (10 : Nat) ^ 18 = 1000000000000000000 := by decide
    have h63 : (2 : Nat) ^ (64 - 1) = 9223372036854775808 := by decide
    rw [h18] at key
    unfold Lib.parseIntB
    by_cases hs : c.toNat = 43 ∨ c.toNat = 45
    · have hlen : r.length ≤ 18 := by
        by_cases hc : c = 45
        · subst hc
          have : Lib.trimPrefix (45 :: r) [45] = r := by unfold Lib.trimPrefix Lib.hasPrefix; simp
          rw [this] at h
          omega
        · have : Lib.trimPrefix (c :: r) [45] = c :: r := by
            unfold Lib.trimPrefix Lib.hasPrefix
            rw [if_neg]
            simp
            exact fun h => hc h.symm
          rw [this] at h
          simp only [List.length_cons] at h
          omega
      simp only [if_pos hs]
      rcases key _ hlen with h1 | ⟨u, h1, h2⟩
      · right
        rw [h1]
      · left
        rw [h1]
        simp only [h63]
        rw [if_neg (by omega), if_neg (by omega)]
        by_cases hn : c.toNat = 45
        · simp only [hn, if_true]
          exact ⟨_, rfl, by omega, by omega⟩
        · simp only [hn, if_false]
          exact ⟨_, rfl, by omega, by omega⟩
    · have hlen : (c :: r).length ≤ 18 := by
        have : Lib.trimPrefix (c :: r) [45] = c :: r := by
          unfold Lib.trimPrefix Lib.hasPrefix
          rw [if_neg]
          simp
          rintro rfl
          exact hs (Or.inr rfl)
        rw [this] at h
        omega
      simp only [if_neg hs]
      rcases key _ hlen with h1 | ⟨u, h1, h2⟩
      · right
        rw [h1]
      · left
        rw [h1]
        simp only [h63]
        rw [if_neg (by omega), if_neg (by omega)]
        have hn : ¬ c.toNat = 45 := fun e => hs (Or.inr e)
        simp only [hn, if_false]
        exact ⟨_, rfl, by omega, by omega⟩

/-- A number's reading as the two results. -/
def numR (o : Option Int) : Value := .tuple #[.int .i64 (o.getD 0), .bool o.isSome]
theorem numP_long {l : List UInt8} (h : 18 < (Lib.trimPrefix l [45]).length) : numP l = none := by unfold numP; rw [if_pos h]
theorem numP_syn {l : List UInt8} (h : Lib.parseIntB 64 l = Lib.NumEnd.syntax) : numP l = none := by unfold numP; rw [h]; split <;> rfl
theorem numP_ok {l : List UInt8} {v : Int} (hl : ¬ 18 < (Lib.trimPrefix l [45]).length) (h : Lib.parseIntB 64 l = .ok v) : numP l = if Lib.itoa v = l then some v else none := by unfold numP; rw [if_neg hl, h]
theorem bytes_eta (s : ByteArray) : (⟨s.data.toList.toArray⟩ : ByteArray) = s := by cases s; simp
theorem bytes_size (l : List UInt8) : (⟨l.toArray⟩ : ByteArray).size = l.length := by simp [ByteArray.size]

end Go.Proofs.YtnhomkmfbngmgaaGreatDoor

namespace Go.Proofs.YtnhomkmfbngmgaaGreatDoor
open Go.ChangeShapes Go.WideShapes Go.ChangeAt Go.RowKit
set_option linter.unusedVariables false

set_option maxRecDepth 100000 in
set_option maxHeartbeats 800000 in
theorem readDecimal_calls (s : ByteArray) (hs : s.size ≤ 1048576) (w : World) (he : Env w) :
    Calls Tryz.prog 115 #[.string s] w fun e w' => e = .returned (numR (numS s.data.toList)) ∧ Below w.heap.size w w' := by
  rw [← numP_eq]
  have q1 : Calls Tryz.prog 213 #[.string s, .string ⟨#[45]⟩] w fun e w' => e = .returned (.string ⟨(Lib.trimPrefix s.data.toList [45]).toArray⟩) ∧ w' = w := Tryz.strings_TrimPrefix s ⟨#[45]⟩ w
  have hsz := bytes_size (Lib.trimPrefix s.data.toList [45])
  generalize (⟨(Lib.trimPrefix s.data.toList [45]).toArray⟩ : ByteArray) = t at *
  replace q1 := hide q1
  by_cases hl : 18 < (Lib.trimPrefix s.data.toList [45]).length
  · have hv := hide (numP_long hl)
    have hlt : (18 : Int) < (t.size : Int) := by omega
    clear hl hsz he
    go_enter Tryz.func115, Tryz.ntmps115
    go_wp2_with fail
    refine q1.out.mono ?_
    rintro e w1 ⟨rfl, rfl⟩
    go_wp2_with fail
    go_ret2
    exact ⟨by rw [hv.out]; rfl, Below.refl _ _⟩
  · have hlt : ¬ (18 : Int) < (t.size : Int) := by omega
    clear hsz
    rcases parse_short _ hl with ⟨v, hp, hb0, hb1⟩ | hp
    · have q2 := hide (((Tryz.strconv_ParseInt_10_at64_ok s (by omega) v hp w).mono fun e w' ⟨a, b⟩ => ⟨a, b.elim (fun h => h ▸ Below.refl _ _) (fun ⟨t, h⟩ => h ▸ Lib.bytesWorld_below _ _ _)⟩ :
        Calls Tryz.prog 214 #[.string s, .int .i64 10, .int .i64 64] w fun e w' => e = .returned (.tuple #[.int .i64 v, .nilIface]) ∧ Below w.heap.size w w'))
      have q3 := hide (fun W (hW : Below w.heap.size w W) => decimal_calls v hb0 hb1 W (he.below hW (Nat.le_refl _)))
      have hv := hide (numP_ok hl hp)
      clear hl hp he hb0 hb1
      by_cases hi : Lib.itoa v = s.data.toList
      · have hq : (⟨(Lib.itoa v).toArray⟩ : ByteArray) = s := by rw [hi, bytes_eta]
        have hv2 : Hid (numP s.data.toList = some v) := by show _ = _; rw [hv.out, if_pos hi]
        rw [hq] at q3
        clear hv hi hq
        go_enter Tryz.func115, Tryz.ntmps115
        go_wp2_with fail
        refine q1.out.mono ?_
        rintro e w1 ⟨rfl, rfl⟩
        go_wp2_with fail
        refine q2.out.mono ?_
        rintro e w2 ⟨rfl, hb2⟩
        go_wp2_with fail
        refine (q3.out _ hb2).mono ?_
        rintro e w3 ⟨rfl, hb3⟩
        go_wp2_with fail
        go_ret2
        exact ⟨by rw [hv2.out]; rfl, hb2.trans (hb3.mono hb2.size)⟩
      · have hq : (⟨(Lib.itoa v).toArray⟩ : ByteArray) ≠ s := by
          intro h
          apply hi
          rw [← h]
        have hv2 : Hid (numP s.data.toList = none) := by show _ = _; rw [hv.out, if_neg hi]
        have hne := str_neq hq
        clear hv hi hq
        generalize (⟨(Lib.itoa v).toArray⟩ : ByteArray) = u at *
        go_enter Tryz.func115, Tryz.ntmps115
        go_wp2_with fail
        refine q1.out.mono ?_
        rintro e w1 ⟨rfl, rfl⟩
        go_wp2_with fail
        refine q2.out.mono ?_
        rintro e w2 ⟨rfl, hb2⟩
        go_wp2_with fail
        refine (q3.out _ hb2).mono ?_
        rintro e w3 ⟨rfl, hb3⟩
        go_wp2_with fail
        go_ret2
        exact ⟨by rw [hv2.out]; rfl, hb2.trans (hb3.mono hb2.size)⟩
    · obtain ⟨tp, p, hvar⟩ := he.good.syn
      have q2 := hide (((Tryz.strconv_ParseInt_10_at64_syntax_var s (by omega) hp tp p w hvar).mono fun e w' ⟨N, a, _, _, b⟩ => ⟨N, a, b⟩ :
        Calls Tryz.prog 214 #[.string s, .int .i64 10, .int .i64 64] w fun e w' => ∃ N, e = .returned (.tuple #[.int .i64 0, .iface 317 (.pointer (some ⟨N, 0, none⟩))]) ∧ Below w.heap.size w w'))
      have hv := hide (numP_syn hp)
      clear hl hp he hvar
      go_enter Tryz.func115, Tryz.ntmps115
      go_wp2_with fail
      refine q1.out.mono ?_
      rintro e w1 ⟨rfl, rfl⟩
      go_wp2_with fail
      refine q2.out.mono ?_
      rintro e w2 ⟨N, rfl, hb2⟩
      go_wp2_with fail
      go_ret2
      exact ⟨by rw [hv.out]; rfl, hb2⟩

end Go.Proofs.YtnhomkmfbngmgaaGreatDoor

namespace Go.Proofs.YtnhomkmfbngmgaaGreatDoor
open Go.ChangeShapes Go.WideShapes Go.ChangeAt Go.RowKit
set_option linter.unusedVariables false

theorem bget (s : ByteArray) (k : Nat) (h : k < s.size) : s.data.toList[k]? = some s[k] := by
  rw [List.getElem?_eq_getElem (by simpa using h)]
  rfl
theorem bsize (s : ByteArray) : s.data.toList.length = s.size := by rw [Array.length_toList]; rfl
def mkB (l : List UInt8) : ByteArray := ⟨l.toArray⟩
theorem mkB_data (l : List UInt8) : (mkB l).data.toList = l := rfl
theorem mkB_size (l : List UInt8) : (mkB l).size = l.length := bytes_size l
theorem extract_mk (s : ByteArray) (a b : Nat) : s.extract a b = mkB ((s.data.toList.drop a).take (b - a)) := by
  apply ByteArray.ext
  apply Array.ext'
  show (s.extract a b).data.toList = (s.data.toList.drop a).take (b - a)
  rw [ByteArray.data_extract, Array.toList_extract]
theorem flat_strv : Flat strv 1 := ⟨fun _ => rfl, fun x u h => by simp [strv] at h; subst h; rfl⟩
theorem elem_str : Elem Tryz.prog 24 9 1 16 := Elem.of Tryz.underlying24 info_string rfl (by decide) (by decide)

theorem takeWhile_hit {c : UInt8} : ∀ {l : List UInt8} {k : Nat}, (∀ j x, j < k → l[j]? = some x → x ≠ c) → l[k]? = some c → (l.takeWhile (fun x => x != c)).length = k
  | [], k, _, h => by simp at h
  | y :: l, 0, _, h => by
    simp at h
    subst h
    simp
  | y :: l, k + 1, hn, h => by
    have hy : y ≠ c := hn 0 y (by omega) rfl
    rw [List.takeWhile_cons_of_pos (by simpa using hy), List.length_cons, takeWhile_hit (l := l) (k := k) (fun j x hj hx => hn (j + 1) x (by omega) (by simpa using hx)) (by simpa using h)]
theorem takeWhile_all {c : UInt8} : ∀ {l : List UInt8}, (∀ (j : Nat) x, l[j]? = some x → x ≠ c) → (l.takeWhile (fun x => x != c)).length = l.length
  | [], _ => rfl
  | y :: l, hn => by
    have hy : y ≠ c := hn 0 y rfl
    rw [List.takeWhile_cons_of_pos (by simpa using hy), List.length_cons, takeWhile_all (l := l) (fun j x hx => hn (j + 1) x (by simpa using hx)), List.length_cons]
def openN (s : ByteArray) : Nat := (s.data.toList.takeWhile (fun x => x != 40)).length

theorem l01Open_calls (s : ByteArray) (w : World) (hs : s.size ≤ 1048576) : Calls Tryz.prog 363 #[.string s] w fun e w' => e = .returned (.int .i64 (openN s)) ∧ w = w' := by
  go_enter Tryz.func363, Tryz.ntmps363
  go_wp2
  go_loop [3] (fun i => ∃ k : Nat, k ≤ s.size ∧ i = .int .i64 k ∧ Hid (∀ j x, j < k → s.data.toList[j]? = some x → x ≠ 40)) (fun i => s.size - (intOf i).toNat)
  case atStart => exact ⟨0, Nat.zero_le _, rfl, fun j x h => absurd h (by omega)⟩
  case round =>
    obtain ⟨k, hk, rfl, ha⟩ := hrel
    by_cases hlt : k < s.size
    · have hg := bget s k hlt
      by_cases h40 : s[k] = 40
      · have hv : Hid (openN s = k) := takeWhile_hit ha.out (by rw [hg, h40])
        have hc : ∀ h : k < s.size, (s[k].toNat : Int) = 40 := fun _ => by rw [h40]; rfl
        clear hg h40
        go_wp2
        go_ret
        exact ⟨ret_i (by rw [hv.out]), rfl⟩
      · have hnext : Hid (∀ j x, j < k + 1 → s.data.toList[j]? = some x → x ≠ 40) := fun j x hj hx => by
          rcases Nat.lt_or_ge j k with h1 | h1
          · exact ha.out j x h1 hx
          · have : j = k := by omega
            subst this
            rw [hg] at hx
            cases hx
            exact h40
        have hne : (s[k].toNat : Int) ≠ 40 := fun h => h40 (UInt8.toNat_inj.1 (by simpa using (by omega : s[k].toNat = 40)))
        generalize hc : (s[k].toNat : Int) = c at *
        have hgetk : ∀ h : k < s.size, (s[k].toNat : Int) = c := fun _ => hc
        have hcb : (c == 40) = false := by rw [beq_eq_false_iff_ne]; exact hne
        clear hg h40 hc hne
        go_wp2
        go_round
        case rel => exact ⟨k + 1, by omega, by go_num, hnext⟩
        case measure => simp [intOf]; omega
    · have hkn : k = s.size := by omega
      subst hkn
      have hv : Hid (openN s = s.size) := by
        show _ = _
        unfold openN
        rw [takeWhile_all (fun j x hx => ha.out j x (by rw [← bsize]; exact (List.getElem?_eq_some_iff.1 hx).1) hx), bsize]
      go_wp2
      go_ret
      exact ⟨ret_i (by rw [hv.out]), rfl⟩

theorem drop_at {l : List UInt8} {k a : Nat} {c : UInt8} (hk : l[k]? = some c) (ha : a ≤ k) : l.drop a = (l.drop a).take (k - a) ++ c :: l.drop (k + 1) := by
  have h1 : (l.drop a).drop (k - a) = c :: l.drop (k + 1) := by
    rw [List.drop_drop, show a + (k - a) = k by omega]
    obtain ⟨hl, hc⟩ := List.getElem?_eq_some_iff.1 hk
    rw [List.drop_eq_getElem_cons hl, hc]
  rw [← h1, List.take_append_drop]
theorem no_in {l : List UInt8} {k a : Nat} {c : UInt8} (h : ∀ j x, a ≤ j → j < k → l[j]? = some x → x ≠ c) : c ∉ (l.drop a).take (k - a) := by
  intro hm
  obtain ⟨i, hi⟩ := List.getElem?_of_mem hm
  rw [List.getElem?_take] at hi
  split at hi
  · rw [List.getElem?_drop] at hi
    exact h (a + i) c (by omega) (by omega) hi rfl
  · cases hi
def piecesB (c : UInt8) (s : ByteArray) : List ByteArray := (splitC c s.data.toList).map mkB
theorem splitC_len (c : UInt8) : ∀ l : List UInt8, (splitC c l).length ≤ l.length + 1
  | [] => by simp [splitC]
  | x :: l => by
    have ih := splitC_len c l
    by_cases hx : x = c
    · subst hx
      rw [splitC_ceq]
      simp only [List.length_cons]
      omega
    · rw [splitC_cne hx]
      simp only [List.length_cons, List.length_tail]
      omega

set_option maxHeartbeats 800000 in
set_option maxRecDepth 100000 in
theorem l01Split_calls (s : ByteArray) (w : World) (hs : s.size ≤ 1048576) : Calls Tryz.prog 381 #[.string s, .int .u8 44] w fun e w' => ∃ A n c, e = .returned (.slice A n c) ∧ n ≤ 1048577 ∧ SlS w' w.heap.size w'.heap.size A n (piecesB 44 s) ∧ Below w.heap.size w w' := by
  have hE := hide elem_str
  go_enter Tryz.func381, Tryz.ntmps381
  go_wp2
  go_loopw [5, 6, 7] (fun o f i wr => ∃ k a n c A done, k ≤ s.size ∧ a ≤ k ∧ n ≤ k ∧ o = .slice A n c ∧ f = .int .i64 (a : Nat) ∧ i = .int .i64 (k : Nat) ∧ Hid (Own 1 strv wr w.heap.size 9 A n c (done.map mkB)) ∧
    Hid (splitC 44 s.data.toList = done ++ splitC 44 (s.data.toList.drop a)) ∧ Hid (∀ j x, a ≤ j → j < k → s.data.toList[j]? = some x → x ≠ 44) ∧ Below w.heap.size w wr) (fun _ _ i _ => s.size - (intOf i).toNat)
  case atStart => exact ⟨0, 0, 0, 0, _, [], Nat.zero_le _, Nat.le_refl _, Nat.le_refl _, rfl, rfl, rfl, Own.made w 9 (Nat.le_refl _), rfl, fun j x h1 h2 => absurd h2 (by omega), (Below.refl _ _).alloc (Nat.le_refl _) _⟩
  case round =>
    obtain ⟨k, a, n, c, A, done, hk, hak, hnk, rfl, rfl, rfl, hown, hsp, hno, hb⟩ := hrel
    have hz := hb.size
    have hza : ∀ o, w.heap.size ≤ (wr.alloc o).heap.size := fun o => by rw [World.size_alloc]; omega
    by_cases hlt : k < s.size
    · have hg := bget s k hlt
      by_cases h44 : s[k] = 44
      · have hc : ∀ h : k < s.size, (s[k].toNat : Int) = 44 := fun _ => by rw [h44]; rfl
        have hsp2 : Hid (splitC 44 s.data.toList = (done ++ [(s.data.toList.drop a).take (k - a)]) ++ splitC 44 (s.data.toList.drop (k + 1))) := by
          show _ = _
          have hd := drop_at (hg.trans (by rw [h44]) : s.data.toList[k]? = some 44) hak
          rw [hsp.out, (congrArg (splitC 44) hd).trans (splitC_hit (no_in hno.out)), List.append_assoc]
          rfl
        have hext := hide (extract_mk s a k)
        clear hg h44 hsp hno
        go_wp2_with (first | (at_builtin; (with_reducible refine wpList_app rfl (.tmp 20) (.tmp 25) rfl hE.out flat_strv rfl (hown.out.alloc _) rfl (Sl.lit1' wr 9 (s.extract a k) _ rfl 1 _ ?c0) ?c1 (hza _) ?_); rotate_right; intro A5 c5 w5 hown5 hgr5 hb5 _))
        case c0 => rfl
        case c1 => omega
        go_roundw
        case rel =>
          refine ⟨k + 1, k + 1, n + 1, c5, A5, done ++ [(s.data.toList.drop a).take (k - a)], by omega, Nat.le_refl _, by omega, rfl, by go_num, by go_num, ?_, hsp2, fun j x h1 h2 => absurd h1 (by omega), (hb.alloc hz _).trans hb5⟩
          show Own _ _ _ _ _ _ _ _ _
          rw [List.map_append, List.map_cons, List.map_nil, ← hext.out]
          exact hown5
        case measure => simp [intOf]; omega
      · have hnext : Hid (∀ j x, a ≤ j → j < k + 1 → s.data.toList[j]? = some x → x ≠ 44) := fun j x h0 hj hx => by
          rcases Nat.lt_or_ge j k with h1 | h1
          · exact hno.out j x h0 h1 hx
          · have : j = k := by omega
            subst this
            rw [hg] at hx
            cases hx
            exact h44
        have hne : (s[k].toNat : Int) ≠ 44 := fun h => h44 (UInt8.toNat_inj.1 (by simpa using (by omega : s[k].toNat = 44)))
        generalize hc : (s[k].toNat : Int) = x at *
        have hgetk : ∀ h : k < s.size, (s[k].toNat : Int) = x := fun _ => hc
        have hcb : (x == 44) = false := by rw [beq_eq_false_iff_ne]; exact hne
        clear hg h44 hc hne
        go_wp2_with fail
        go_roundw
        case rel => exact ⟨k + 1, a, n, c, A, done, by omega, by omega, by omega, rfl, rfl, by go_num, hown, hsp, hnext, hb⟩
        case measure => simp [intOf]; omega
    · have hkn : k = s.size := by omega
      have hsp2 : Hid (splitC 44 s.data.toList = done ++ [s.data.toList.drop a]) := by
        show _ = _
        rw [hsp.out, splitC_miss]
        have := no_in (l := s.data.toList) (a := a) (k := k) hno.out
        rw [List.take_of_length_le (by rw [List.length_drop, bsize]; omega)] at this
        exact this
      have hext := hide (extract_mk s a s.size)
      subst hkn
      clear hsp hno
      go_wp2_with (first | (at_builtin; (with_reducible refine wpList_app rfl (.tmp 29) (.tmp 33) rfl hE.out flat_strv rfl (hown.out.alloc _) rfl (Sl.lit1' wr 9 (s.extract a s.size) _ rfl 1 _ ?c0) ?c1 (hza _) ?_); rotate_right; intro A5 c5 w5 hown5 hgr5 hb5 _))
      case c0 => rfl
      case c1 => omega
      go_ret
      have hsl := hown5.sl flat_strv
      refine ⟨A5, n + 1, c5, rfl, by omega, ?_, (hb.alloc hz _).trans hb5⟩
      unfold piecesB
      rw [hsp2.out, List.map_append, List.map_cons, List.map_nil]
      rw [hext.out, List.take_of_length_le (by rw [List.length_drop, bsize]; omega)] at hsl
      exact hsl

end Go.Proofs.YtnhomkmfbngmgaaGreatDoor

namespace Go.Proofs.YtnhomkmfbngmgaaGreatDoor
open Go.ChangeShapes Go.WideShapes Go.ChangeAt Go.RowKit
set_option linter.unusedVariables false

theorem isDig_B (x : UInt8) : isDig x = digitB (x.toNat : Int) := by
  unfold isDig digitB
  congr 1 <;> (rw [decide_eq_decide]; omega)
theorem numNeg_long {d : List UInt8} (h : ¬ d.length ≤ 18) : numNeg d = none := by unfold numNeg; rw [if_neg]; simp [h]
theorem numNeg_zero {d : List UInt8} (h : d.head? = some 48) : numNeg d = none := by unfold numNeg; rw [if_neg]; simp [h]
theorem numNeg_nd {d : List UInt8} (h : d.all isDig = false) : numNeg d = none := by unfold numNeg canon; rw [if_neg]; simp [h]
theorem numNeg_ok {d : List UInt8} (h0 : d ≠ []) (h1 : d.length ≤ 18) (h2 : d.head? ≠ some 48) (h3 : d.all isDig = true) : numNeg d = some (-(valN 0 d : Int)) := by unfold numNeg canon; rw [if_pos]; simp [h0, h1, h2, h3]
theorem numPos_long {d : List UInt8} (h : ¬ d.length ≤ 18) : numPos d = none := by unfold numPos; rw [if_neg]; simp [h]
theorem numPos_zero {d : List UInt8} (h : d.head? = some 48) (h1 : 1 < d.length) : numPos d = none := by
  unfold numPos canon
  rw [if_neg]
  have : ¬ d.length = 1 := by omega
  simp [h, this]
theorem numPos_nd {d : List UInt8} (h : d.all isDig = false) : numPos d = none := by unfold numPos canon; rw [if_neg]; simp [h]
theorem numPos_ok {d : List UInt8} (h0 : d ≠ []) (h1 : d.length ≤ 18) (h2 : ¬ (d.head? = some 48 ∧ 1 < d.length)) (h3 : d.all isDig = true) : numPos d = some (valN 0 d : Int) := by
  unfold numPos canon
  rw [if_pos]
  have : d.length = 1 ∨ d.head? ≠ some 48 := by
    by_cases h : d.length = 1
    · exact .inl h
    · right
      intro hh
      have : d.length ≠ 0 := fun e => h0 (List.eq_nil_of_length_eq_zero e)
      exact h2 ⟨hh, by omega⟩
  rcases this with h | h <;> simp [h0, h1, h, h3]
theorem take_dig {l : List UInt8} {k : Nat} {x : UInt8} (hx : l[k]? = some x) : (l.take (k + 1)).all isDig = ((l.take k).all isDig && isDig x) ∧ valN 0 (l.take (k + 1)) = valN 0 (l.take k) * 10 + (x.toNat - 48) := by
  have e : l.take (k + 1) = l.take k ++ [x] := by rw [List.take_add_one, hx]; rfl
  rw [e, valN_snoc, List.all_append]
  simp
theorem nd_of {l : List UInt8} {k : Nat} {x : UInt8} (hx : l[k]? = some x) (h : isDig x = false) : l.all isDig = false := by
  rw [Bool.eq_false_iff]
  intro ha
  have := (List.all_eq_true.1 ha) x (List.mem_of_getElem? hx)
  rw [h] at this
  cases this

set_option maxHeartbeats 1600000 in
set_option maxRecDepth 100000 in
theorem l01Number_calls (s : ByteArray) (w : World) (hs : s.size ≤ 1048576) : Calls Tryz.prog 382 #[.string s] w fun e w' => e = .returned (numR (numS s.data.toList)) ∧ w = w' := by
  have hs63 : (s.size : Int) ≤ 1048576 := by omega
  by_cases h0 : s.size = 0
  · have hl0 : s.data.toList = [] := List.eq_nil_of_length_eq_zero (by rw [bsize]; exact h0)
    have hres : Hid (numS s.data.toList = none) := by show _ = _; rw [hl0]; rfl
    clear hl0
    go_enter Tryz.func382, Tryz.ntmps382
    go_wp2
    go_ret2
    exact ⟨by rw [hres.out]; rfl, rfl⟩
  have hpos : 0 < s.size := by omega
  have hposI : (0 : Int) < (s.size : Int) := by omega
  have hg0 := bget s 0 hpos
  have hh0 : s.data.toList.head? = some s[0] := by rw [List.head?_eq_getElem?]; exact hg0
  by_cases hneg : s[0] = 45
  · have hc0 : ∀ h : 0 < s.size, (s[0].toNat : Int) = 45 := fun _ => by rw [hneg]; rfl
    have hN : Hid (numS s.data.toList = numNeg (s.data.toList.drop 1)) := by
      show _ = _
      unfold numS
      rw [hh0, hneg, if_pos rfl, ← List.drop_one]
    clear hh0 hg0 hneg
    by_cases h1 : s.size = 1
    · have hres : Hid (numS s.data.toList = none) := by
        show _ = _
        rw [hN.out, List.drop_of_length_le (by rw [bsize]; omega)]
        rfl
      have h1I : (s.size : Int) = 1 := by omega
      clear hN
      go_enter Tryz.func382, Tryz.ntmps382
      go_wp2
      go_ret2
      exact ⟨by rw [hres.out]; rfl, rfl⟩
    have h1I : ((s.size : Int) == 1) = false := by rw [beq_eq_false_iff_ne]; omega
    by_cases h18 : s.size ≤ 19
    · have h18I : ¬ (18 : Int) < (s.size : Int) - 1 := by omega
      have h1lt : 1 < s.size := by omega
      have h1ltI : (1 : Int) < (s.size : Int) := by omega
      have hg1 : (s.data.toList.drop 1).head? = some s[1] := by rw [List.head?_eq_getElem?, List.getElem?_drop]; exact bget s 1 h1lt
      by_cases hz : s[1] = 48
      · have hres : Hid (numS s.data.toList = none) := by show _ = _; rw [hN.out, numNeg_zero (by rw [hg1, hz])]
        have hc1 : ∀ h : 1 < s.size, (s[1].toNat : Int) = 48 := fun _ => by rw [hz]; rfl
        clear hN hg1 hz
        go_enter Tryz.func382, Tryz.ntmps382
        go_wp2
        go_ret2
        exact ⟨by rw [hres.out]; rfl, rfl⟩
      have hz2 : Hid ((s.data.toList.drop 1).head? ≠ some 48) := by show _ ≠ _; rw [hg1]; exact fun e => hz (Option.some.inj e)
      have hne : (s[1].toNat : Int) ≠ 48 := fun h => hz (UInt8.toNat_inj.1 (by simpa using (by omega : s[1].toNat = 48)))
      generalize hc : (s[1].toNat : Int) = c1 at *
      have hget1 : ∀ h : 1 < s.size, (s[1].toNat : Int) = c1 := fun _ => hc
      have hcb : (c1 == 48) = false := by rw [beq_eq_false_iff_ne]; exact hne
      clear hg1 hz hc hne
      go_enter Tryz.func382, Tryz.ntmps382
      go_wp2
      go_loop [5, 6] (fun n i => ∃ k v : Nat, 1 ≤ k ∧ k ≤ s.size ∧ i = .int .i64 (k : Nat) ∧ n = .int .i64 (v : Nat) ∧ v ≤ 1000000000000000000 ∧ Hid (v = valN 0 ((s.data.toList.drop 1).take (k - 1))) ∧ Hid (((s.data.toList.drop 1).take (k - 1)).all isDig = true)) (fun _ i => s.size - (intOf i).toNat)
      case atStart => exact ⟨1, 0, Nat.le_refl _, by omega, rfl, rfl, by omega, rfl, rfl⟩
      case round =>
        obtain ⟨k, v, hak, hk, rfl, rfl, hv18, hv, hd⟩ := hrel
        by_cases hlt : k < s.size
        · have hg : (s.data.toList.drop 1)[k - 1]? = some s[k] := by rw [List.getElem?_drop, show 1 + (k - 1) = k by omega]; exact bget s k hlt
          have hstep := take_dig hg
          have hdB := isDig_B s[k]
          have hq := fun W => l01Digit_calls (s[k].toNat : Int) W
          rw [← hdB] at hq
          by_cases hdig : isDig s[k] = true
          · rw [hdig] at hq
            have hx : 48 ≤ s[k].toNat ∧ s[k].toNat ≤ 57 := by simpa [isDig] using hdig
            have hlt17 : v < 100000000000000000 := by
              have h1 := valN_lt _ 0 0 hd.out (by decide)
              rw [← hv.out, List.length_take, List.length_drop, bsize] at h1
              have h2 : (10 : Nat) ^ (0 + min (k - 1) (s.size - 1)) ≤ 10 ^ 17 := Nat.pow_le_pow_right (by decide) (by omega)
              have h3 : (10 : Nat) ^ 17 = 100000000000000000 := by decide
              omega
            have hv2 : Hid (v * 10 + (s[k].toNat - 48) = valN 0 ((s.data.toList.drop 1).take (k + 1 - 1))) := by
              show _ = _
              rw [show k + 1 - 1 = (k - 1) + 1 by omega, hstep.2, ← hv.out]
            have hd2 : Hid (((s.data.toList.drop 1).take (k + 1 - 1)).all isDig = true) := by
              show _ = _
              rw [show k + 1 - 1 = (k - 1) + 1 by omega, hstep.1, hd.out, hdig]
              rfl
            replace hq := hide hq
            clear hg hstep hdB hdig hv hd
            generalize hxn : s[k].toNat = x at *
            have hgetk : ∀ h : k < s.size, (s[k].toNat : Int) = (x : Int) := fun _ => by rw [hxn]
            have hx1 : (48 : Int) ≤ (x : Int) := by omega
            have hx2 : (x : Int) ≤ 57 := by omega
            have hv17 : (v : Int) < 100000000000000000 := by omega
            clear hxn hx
            go_wp2_with (first | (go_at_call 388; (with_reducible refine (hq.out _).mono ?_); rintro e w' ⟨rfl, rfl⟩))
            go_round
            case rel => exact ⟨k + 1, v * 10 + (x - 48), by omega, by omega, by go_num, by go_num, by omega, hv2, hd2⟩
            case measure => simp [intOf]; omega
          · replace hdig := Bool.eq_false_iff.2 hdig
            rw [hdig] at hq
            have hres : Hid (numS s.data.toList = none) := by show _ = _; rw [hN.out, numNeg_nd (nd_of hg hdig)]
            replace hq := hide hq
            clear hg hstep hdB hdig hv hd
            generalize hxn : (s[k].toNat : Int) = x at *
            have hgetk : ∀ h : k < s.size, (s[k].toNat : Int) = x := fun _ => hxn
            go_wp2_with (first | (go_at_call 388; (with_reducible refine (hq.out _).mono ?_); rintro e w' ⟨rfl, rfl⟩))
            go_ret2
            exact ⟨by rw [hres.out]; rfl, rfl⟩
        · have hkn : k = s.size := by omega
          subst hkn
          have hfull : (s.data.toList.drop 1).take (s.size - 1) = (s.data.toList.drop 1) := List.take_of_length_le (by rw [List.length_drop, bsize]; omega)
          have hres : Hid (numS s.data.toList = some (-(v : Int))) := by
            show _ = _
            have h1 := hv.out; have h2 := hd.out
            rw [hfull] at h1 h2
            rw [hN.out, h1]
            exact numNeg_ok (by intro e; have := congrArg List.length e; rw [List.length_drop, bsize, List.length_nil] at this; omega) (by rw [List.length_drop, bsize]; omega) hz2.out h2
          clear hv hd hfull
          go_wp2_with fail
          go_ret2
          exact ⟨by rw [hres.out]; rfl, rfl⟩

    · have hres : Hid (numS s.data.toList = none) := by show _ = _; rw [hN.out, numNeg_long (by rw [List.length_drop, bsize]; omega)]
      have h18I : (18 : Int) < (s.size : Int) - 1 := by omega
      clear hN
      go_enter Tryz.func382, Tryz.ntmps382
      go_wp2
      go_ret2
      exact ⟨by rw [hres.out]; rfl, rfl⟩
  · have hN : Hid (numS s.data.toList = numPos (s.data.toList.drop 0)) := by
      show _ = _
      unfold numS
      rw [hh0, if_neg (fun e => hneg (Option.some.inj e)), List.drop_zero]
    have hne : (s[0].toNat : Int) ≠ 45 := fun h => hneg (UInt8.toNat_inj.1 (by simpa using (by omega : s[0].toNat = 45)))
    have hzb : ((s.size : Int) == 0) = false := by rw [beq_eq_false_iff_ne]; omega
    by_cases h18 : s.size ≤ 18
    · have h18I : ¬ (18 : Int) < (s.size : Int) := by omega
      by_cases hz : s[0] = 48 ∧ 1 < s.size
      · have hres : Hid (numS s.data.toList = none) := by show _ = _; rw [hN.out, List.drop_zero, numPos_zero (by rw [hh0, hz.1]) (by rw [bsize]; exact hz.2)]
        have hc1 : ∀ h : 0 < s.size, (s[0].toNat : Int) = 48 := fun _ => by rw [hz.1]; rfl
        have h1I : (1 : Int) < (s.size : Int) := by omega
        clear hN hh0 hg0 hneg hz hne
        go_enter Tryz.func382, Tryz.ntmps382
        go_wp2
        go_ret2
        exact ⟨by rw [hres.out]; rfl, rfl⟩
      have hz2 : Hid (¬ ((s.data.toList.drop 0).head? = some 48 ∧ 1 < (s.data.toList.drop 0).length)) := by
        show ¬ _
        rw [List.drop_zero, hh0, bsize]
        exact fun e => hz ⟨Option.some.inj e.1, e.2⟩
      have hz3 : (s[0].toNat : Int) ≠ 48 ∨ ¬ (1 : Int) < (s.size : Int) := by
        by_cases h : s[0] = 48
        · right
          intro h2
          exact hz ⟨h, by omega⟩
        · exact .inl fun h2 => h (UInt8.toNat_inj.1 (by simpa using (by omega : s[0].toNat = 48)))
      generalize hc : (s[0].toNat : Int) = c0 at *
      have hget0 : ∀ h : 0 < s.size, (s[0].toNat : Int) = c0 := fun _ => hc
      have hcb : (c0 == 45) = false := by rw [beq_eq_false_iff_ne]; exact hne
      clear hh0 hg0 hneg hz hc hne
      rcases hz3 with hz4 | hz4
      · have hcb2 : (c0 == 48) = false := by rw [beq_eq_false_iff_ne]; exact hz4
        clear hz4
        go_enter Tryz.func382, Tryz.ntmps382
        go_wp2
        go_loop [5, 6] (fun n i => ∃ k v : Nat, 0 ≤ k ∧ k ≤ s.size ∧ i = .int .i64 (k : Nat) ∧ n = .int .i64 (v : Nat) ∧ v ≤ 1000000000000000000 ∧ Hid (v = valN 0 ((s.data.toList.drop 0).take (k - 0))) ∧ Hid (((s.data.toList.drop 0).take (k - 0)).all isDig = true)) (fun _ i => s.size - (intOf i).toNat)
        case atStart => exact ⟨0, 0, Nat.le_refl _, by omega, rfl, rfl, by omega, rfl, rfl⟩
        case round =>
          obtain ⟨k, v, hak, hk, rfl, rfl, hv18, hv, hd⟩ := hrel
          by_cases hlt : k < s.size
          · have hg : (s.data.toList.drop 0)[k - 0]? = some s[k] := by rw [List.getElem?_drop, show 0 + (k - 0) = k by omega]; exact bget s k hlt
            have hstep := take_dig hg
            have hdB := isDig_B s[k]
            have hq := fun W => l01Digit_calls (s[k].toNat : Int) W
            rw [← hdB] at hq
            by_cases hdig : isDig s[k] = true
            · rw [hdig] at hq
              have hx : 48 ≤ s[k].toNat ∧ s[k].toNat ≤ 57 := by simpa [isDig] using hdig
              have hlt17 : v < 100000000000000000 := by
                have h1 := valN_lt _ 0 0 hd.out (by decide)
                rw [← hv.out, List.length_take, List.length_drop, bsize] at h1
                have h2 : (10 : Nat) ^ (0 + min (k - 0) (s.size - 0)) ≤ 10 ^ 17 := Nat.pow_le_pow_right (by decide) (by omega)
                have h3 : (10 : Nat) ^ 17 = 100000000000000000 := by decide
                omega
              have hv2 : Hid (v * 10 + (s[k].toNat - 48) = valN 0 ((s.data.toList.drop 0).take (k + 1 - 0))) := by
                show _ = _
                rw [show k + 1 - 0 = (k - 0) + 1 by omega, hstep.2, ← hv.out]
              have hd2 : Hid (((s.data.toList.drop 0).take (k + 1 - 0)).all isDig = true) := by
                show _ = _
                rw [show k + 1 - 0 = (k - 0) + 1 by omega, hstep.1, hd.out, hdig]
                rfl
              replace hq := hide hq
              clear hg hstep hdB hdig hv hd
              generalize hxn : s[k].toNat = x at *
              have hgetk : ∀ h : k < s.size, (s[k].toNat : Int) = (x : Int) := fun _ => by rw [hxn]
              have hx1 : (48 : Int) ≤ (x : Int) := by omega
              have hx2 : (x : Int) ≤ 57 := by omega
              have hv17 : (v : Int) < 100000000000000000 := by omega
              clear hxn hx
              go_wp2_with (first | (go_at_call 388; (with_reducible refine (hq.out _).mono ?_); rintro e w' ⟨rfl, rfl⟩))
              go_round
              case rel => exact ⟨k + 1, v * 10 + (x - 48), by omega, by omega, by go_num, by go_num, by omega, hv2, hd2⟩
              case measure => simp [intOf]; omega
            · replace hdig := Bool.eq_false_iff.2 hdig
              rw [hdig] at hq
              have hres : Hid (numS s.data.toList = none) := by show _ = _; rw [hN.out, numPos_nd (nd_of hg hdig)]
              replace hq := hide hq
              clear hg hstep hdB hdig hv hd
              generalize hxn : (s[k].toNat : Int) = x at *
              have hgetk : ∀ h : k < s.size, (s[k].toNat : Int) = x := fun _ => hxn
              go_wp2_with (first | (go_at_call 388; (with_reducible refine (hq.out _).mono ?_); rintro e w' ⟨rfl, rfl⟩))
              go_ret2
              exact ⟨by rw [hres.out]; rfl, rfl⟩
          · have hkn : k = s.size := by omega
            subst hkn
            have hfull : (s.data.toList.drop 0).take (s.size - 0) = (s.data.toList.drop 0) := List.take_of_length_le (by rw [List.length_drop, bsize]; omega)
            have hres : Hid (numS s.data.toList = some ((v : Int))) := by
              show _ = _
              have h1 := hv.out; have h2 := hd.out
              rw [hfull] at h1 h2
              rw [hN.out, h1]
              exact numPos_ok (by intro e; have := congrArg List.length e; rw [List.length_drop, bsize, List.length_nil] at this; omega) (by rw [List.length_drop, bsize]; omega) hz2.out h2
            clear hv hd hfull
            go_wp2_with fail
            go_ret2
            exact ⟨by rw [hres.out]; rfl, rfl⟩

      · have h1s : ¬ 1 < s.size := by omega
        by_cases hcb3 : c0 = 48
        · subst hcb3
          go_enter Tryz.func382, Tryz.ntmps382
          go_wp2
          go_loop [5, 6] (fun n i => ∃ k v : Nat, 0 ≤ k ∧ k ≤ s.size ∧ i = .int .i64 (k : Nat) ∧ n = .int .i64 (v : Nat) ∧ v ≤ 1000000000000000000 ∧ Hid (v = valN 0 ((s.data.toList.drop 0).take (k - 0))) ∧ Hid (((s.data.toList.drop 0).take (k - 0)).all isDig = true)) (fun _ i => s.size - (intOf i).toNat)
          case atStart => exact ⟨0, 0, Nat.le_refl _, by omega, rfl, rfl, by omega, rfl, rfl⟩
          case round =>
            obtain ⟨k, v, hak, hk, rfl, rfl, hv18, hv, hd⟩ := hrel
            by_cases hlt : k < s.size
            · have hg : (s.data.toList.drop 0)[k - 0]? = some s[k] := by rw [List.getElem?_drop, show 0 + (k - 0) = k by omega]; exact bget s k hlt
              have hstep := take_dig hg
              have hdB := isDig_B s[k]
              have hq := fun W => l01Digit_calls (s[k].toNat : Int) W
              rw [← hdB] at hq
              by_cases hdig : isDig s[k] = true
              · rw [hdig] at hq
                have hx : 48 ≤ s[k].toNat ∧ s[k].toNat ≤ 57 := by simpa [isDig] using hdig
                have hlt17 : v < 100000000000000000 := by
                  have h1 := valN_lt _ 0 0 hd.out (by decide)
                  rw [← hv.out, List.length_take, List.length_drop, bsize] at h1
                  have h2 : (10 : Nat) ^ (0 + min (k - 0) (s.size - 0)) ≤ 10 ^ 17 := Nat.pow_le_pow_right (by decide) (by omega)
                  have h3 : (10 : Nat) ^ 17 = 100000000000000000 := by decide
                  omega
                have hv2 : Hid (v * 10 + (s[k].toNat - 48) = valN 0 ((s.data.toList.drop 0).take (k + 1 - 0))) := by
                  show _ = _
                  rw [show k + 1 - 0 = (k - 0) + 1 by omega, hstep.2, ← hv.out]
                have hd2 : Hid (((s.data.toList.drop 0).take (k + 1 - 0)).all isDig = true) := by
                  show _ = _
                  rw [show k + 1 - 0 = (k - 0) + 1 by omega, hstep.1, hd.out, hdig]
                  rfl
                replace hq := hide hq
                clear hg hstep hdB hdig hv hd
                generalize hxn : s[k].toNat = x at *
                have hgetk : ∀ h : k < s.size, (s[k].toNat : Int) = (x : Int) := fun _ => by rw [hxn]
                have hx1 : (48 : Int) ≤ (x : Int) := by omega
                have hx2 : (x : Int) ≤ 57 := by omega
                have hv17 : (v : Int) < 100000000000000000 := by omega
                clear hxn hx
                go_wp2_with (first | (go_at_call 388; (with_reducible refine (hq.out _).mono ?_); rintro e w' ⟨rfl, rfl⟩))
                go_round
                case rel => exact ⟨k + 1, v * 10 + (x - 48), by omega, by omega, by go_num, by go_num, by omega, hv2, hd2⟩
                case measure => simp [intOf]; omega
              · replace hdig := Bool.eq_false_iff.2 hdig
                rw [hdig] at hq
                have hres : Hid (numS s.data.toList = none) := by show _ = _; rw [hN.out, numPos_nd (nd_of hg hdig)]
                replace hq := hide hq
                clear hg hstep hdB hdig hv hd
                generalize hxn : (s[k].toNat : Int) = x at *
                have hgetk : ∀ h : k < s.size, (s[k].toNat : Int) = x := fun _ => hxn
                go_wp2_with (first | (go_at_call 388; (with_reducible refine (hq.out _).mono ?_); rintro e w' ⟨rfl, rfl⟩))
                go_ret2
                exact ⟨by rw [hres.out]; rfl, rfl⟩
            · have hkn : k = s.size := by omega
              subst hkn
              have hfull : (s.data.toList.drop 0).take (s.size - 0) = (s.data.toList.drop 0) := List.take_of_length_le (by rw [List.length_drop, bsize]; omega)
              have hres : Hid (numS s.data.toList = some ((v : Int))) := by
                show _ = _
                have h1 := hv.out; have h2 := hd.out
                rw [hfull] at h1 h2
                rw [hN.out, h1]
                exact numPos_ok (by intro e; have := congrArg List.length e; rw [List.length_drop, bsize, List.length_nil] at this; omega) (by rw [List.length_drop, bsize]; omega) hz2.out h2
              clear hv hd hfull
              go_wp2_with fail
              go_ret2
              exact ⟨by rw [hres.out]; rfl, rfl⟩

        · have hcb2 : (c0 == 48) = false := by rw [beq_eq_false_iff_ne]; exact hcb3
          clear hcb3
          go_enter Tryz.func382, Tryz.ntmps382
          go_wp2
          go_loop [5, 6] (fun n i => ∃ k v : Nat, 0 ≤ k ∧ k ≤ s.size ∧ i = .int .i64 (k : Nat) ∧ n = .int .i64 (v : Nat) ∧ v ≤ 1000000000000000000 ∧ Hid (v = valN 0 ((s.data.toList.drop 0).take (k - 0))) ∧ Hid (((s.data.toList.drop 0).take (k - 0)).all isDig = true)) (fun _ i => s.size - (intOf i).toNat)
          case atStart => exact ⟨0, 0, Nat.le_refl _, by omega, rfl, rfl, by omega, rfl, rfl⟩
          case round =>
            obtain ⟨k, v, hak, hk, rfl, rfl, hv18, hv, hd⟩ := hrel
            by_cases hlt : k < s.size
            · have hg : (s.data.toList.drop 0)[k - 0]? = some s[k] := by rw [List.getElem?_drop, show 0 + (k - 0) = k by omega]; exact bget s k hlt
              have hstep := take_dig hg
              have hdB := isDig_B s[k]
              have hq := fun W => l01Digit_calls (s[k].toNat : Int) W
              rw [← hdB] at hq
              by_cases hdig : isDig s[k] = true
              · rw [hdig] at hq
                have hx : 48 ≤ s[k].toNat ∧ s[k].toNat ≤ 57 := by simpa [isDig] using hdig
                have hlt17 : v < 100000000000000000 := by
                  have h1 := valN_lt _ 0 0 hd.out (by decide)
                  rw [← hv.out, List.length_take, List.length_drop, bsize] at h1
                  have h2 : (10 : Nat) ^ (0 + min (k - 0) (s.size - 0)) ≤ 10 ^ 17 := Nat.pow_le_pow_right (by decide) (by omega)
                  have h3 : (10 : Nat) ^ 17 = 100000000000000000 := by decide
                  omega
                have hv2 : Hid (v * 10 + (s[k].toNat - 48) = valN 0 ((s.data.toList.drop 0).take (k + 1 - 0))) := by
                  show _ = _
                  rw [show k + 1 - 0 = (k - 0) + 1 by omega, hstep.2, ← hv.out]
                have hd2 : Hid (((s.data.toList.drop 0).take (k + 1 - 0)).all isDig = true) := by
                  show _ = _
                  rw [show k + 1 - 0 = (k - 0) + 1 by omega, hstep.1, hd.out, hdig]
                  rfl
                replace hq := hide hq
                clear hg hstep hdB hdig hv hd
                generalize hxn : s[k].toNat = x at *
                have hgetk : ∀ h : k < s.size, (s[k].toNat : Int) = (x : Int) := fun _ => by rw [hxn]
                have hx1 : (48 : Int) ≤ (x : Int) := by omega
                have hx2 : (x : Int) ≤ 57 := by omega
                have hv17 : (v : Int) < 100000000000000000 := by omega
                clear hxn hx
                go_wp2_with (first | (go_at_call 388; (with_reducible refine (hq.out _).mono ?_); rintro e w' ⟨rfl, rfl⟩))
                go_round
                case rel => exact ⟨k + 1, v * 10 + (x - 48), by omega, by omega, by go_num, by go_num, by omega, hv2, hd2⟩
                case measure => simp [intOf]; omega
              · replace hdig := Bool.eq_false_iff.2 hdig
                rw [hdig] at hq
                have hres : Hid (numS s.data.toList = none) := by show _ = _; rw [hN.out, numPos_nd (nd_of hg hdig)]
                replace hq := hide hq
                clear hg hstep hdB hdig hv hd
                generalize hxn : (s[k].toNat : Int) = x at *
                have hgetk : ∀ h : k < s.size, (s[k].toNat : Int) = x := fun _ => hxn
                go_wp2_with (first | (go_at_call 388; (with_reducible refine (hq.out _).mono ?_); rintro e w' ⟨rfl, rfl⟩))
                go_ret2
                exact ⟨by rw [hres.out]; rfl, rfl⟩
            · have hkn : k = s.size := by omega
              subst hkn
              have hfull : (s.data.toList.drop 0).take (s.size - 0) = (s.data.toList.drop 0) := List.take_of_length_le (by rw [List.length_drop, bsize]; omega)
              have hres : Hid (numS s.data.toList = some ((v : Int))) := by
                show _ = _
                have h1 := hv.out; have h2 := hd.out
                rw [hfull] at h1 h2
                rw [hN.out, h1]
                exact numPos_ok (by intro e; have := congrArg List.length e; rw [List.length_drop, bsize, List.length_nil] at this; omega) (by rw [List.length_drop, bsize]; omega) hz2.out h2
              clear hv hd hfull
              go_wp2_with fail
              go_ret2
              exact ⟨by rw [hres.out]; rfl, rfl⟩

    · have hres : Hid (numS s.data.toList = none) := by show _ = _; rw [hN.out, numPos_long (by rw [List.length_drop, bsize]; omega)]
      have h18I : (18 : Int) < (s.size : Int) := by omega
      generalize hc : (s[0].toNat : Int) = c0 at *
      have hget0 : ∀ h : 0 < s.size, (s[0].toNat : Int) = c0 := fun _ => hc
      have hcb : (c0 == 45) = false := by rw [beq_eq_false_iff_ne]; exact hne
      clear hh0 hg0 hneg hc hne hN
      go_enter Tryz.func382, Tryz.ntmps382
      go_wp2
      go_ret2
      exact ⟨by rw [hres.out]; rfl, rfl⟩

end Go.Proofs.YtnhomkmfbngmgaaGreatDoor
