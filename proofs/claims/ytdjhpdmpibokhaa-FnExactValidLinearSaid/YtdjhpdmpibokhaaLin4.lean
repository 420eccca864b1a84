/-
  Linear processes as arguments of a law: comparing summands. Conditions: at most 1048576 elements.
-/
import Derived.Test.YtdjhpdmpibokhaaLin3
namespace Go.Proofs.Ytdjhpdmpibokhaa
open Go.ChangeShapes Go.WideShapes Go.ChangeAt Go.RowKit
set_option linter.unusedVariables false

theorem eqInt64S_a {v u : Value} {d e : List Int} {w : World} {lo hi lo' hi' : Nat} (h : ArgI w lo hi v d) (g : ArgI w lo' hi' u e) (hs : d.length ≤ 1048576) (gs : e.length ≤ 1048576) :
    Calls Try.prog 34 #[v, u] w fun r w' => r = .returned (.bool (decide (d = e))) ∧ Below w.heap.size w w' := by
  obtain ⟨A, n, c, rfl, h1, h2⟩ := h
  obtain ⟨B, m, b, rfl, g1, g2⟩ := g
  exact eqInt64S_calls A B n m c b d e w lo hi lo' hi' h2 g2 h1 g1
theorem eqTermS_a {v u : Value} {d e : List (Int × Int)} {w : World} {lo hi lo' hi' : Nat} (h : ArgT w lo hi v d) (g : ArgT w lo' hi' u e) (hs : d.length ≤ 1048576) (gs : e.length ≤ 1048576) :
    Calls Try.prog 16 #[v, u] w fun r w' => r = .returned (.bool (decide (d = e))) ∧ Below w.heap.size w w' := by
  obtain ⟨A, n, c, rfl, h1, h2⟩ := h
  obtain ⟨B, m, b, rfl, g1, g2⟩ := g
  exact eqTermS_calls A B n m c b d e w lo hi lo' hi' h2 g2 h1 g1
theorem ArgTT.rows {v : Value} {d : DTT} {w : World} {lo hi : Nat} (h : ArgTT w lo hi v d) (hs : totTT d ≤ 1048576) : ∃ A n c R, v = .slice A n c ∧ RowsT 1048576 w lo hi A n R ∧ R.map (·.2) = d ∧ n ≤ 1048576 := by
  obtain ⟨A, n, c, R, rfl, h1, h2, rfl⟩ := h
  have ht := totTT_of h2
  exact ⟨A, n, c, R, rfl, h2.upto (preG_all h2.len (by omega)), rfl, by omega⟩
theorem eqTermSS_a {v u : Value} {d e : DTT} {w : World} {lo hi lo' hi' : Nat} (h : ArgTT w lo hi v d) (g : ArgTT w lo' hi' u e) (hs : totTT d ≤ 1048576) (gs : totTT e ≤ 1048576) :
    Calls Try.prog 29 #[v, u] w fun r w' => r = .returned (.bool (decide (d = e))) ∧ Below w.heap.size w w' := by
  obtain ⟨A, n, c, R, rfl, h1, rfl, h2⟩ := h.rows hs
  obtain ⟨B, m, b, S, rfl, g1, rfl, g2⟩ := g.rows gs
  exact eqTermSS_calls A B n m c b R S w lo hi lo' hi' h1 g1 h2 g2

set_option maxHeartbeats 1600000 in
set_option maxRecDepth 100000 in
theorem eqSummand_a {x y : CSu} {d e : DSu} {w : World} {lo hi lo' hi' : Nat} (h : ReadSu w lo hi x d) (g : ReadSu w lo' hi' y e) (hs : totSu d ≤ 1048576) (gs : totSu e ≤ 1048576) :
    Calls Try.prog 118 #[.agg #[x.1, x.2.1, .string x.2.2.1, x.2.2.2.1, x.2.2.2.2], .agg #[y.1, y.2.1, .string y.2.2.1, y.2.2.2.1, y.2.2.2.2]] w fun r w' => r = .returned (.bool (decide (d = e))) ∧ Below w.heap.size w w' := by
  obtain ⟨x0, x1, x2, x3, x4⟩ := x
  obtain ⟨y0, y1, y2, y3, y4⟩ := y
  obtain ⟨d0, d1, d2, d3, d4⟩ := d
  obtain ⟨e0, e1, e2, e3, e4⟩ := e
  obtain ⟨h0, h1, h2, h3, h4⟩ := h
  obtain ⟨g0, g1, g2, g3, g4⟩ := g
  dsimp only at *
  obtain ⟨hh2, hx2⟩ := h2; obtain ⟨gg2, gx2⟩ := g2
  subst hh2 gg2
  simp only [totSu] at hs gs
  have k0 : ((w.alloc (.cells #[x0, x1, .string x2, x3, x4] 103)).alloc (.cells #[y0, y1, .string y2, y3, y4] 103)).heap[w.heap.size]? = some (.cells #[x0, x1, .string x2, x3, x4] 103 (0, 0)) := (Below.heap_alloc _ _ _ (by simp only [World.size_alloc]; omega)).trans (heap_alloc_new w _)
  have k1 : ((w.alloc (.cells #[x0, x1, .string x2, x3, x4] 103)).alloc (.cells #[y0, y1, .string y2, y3, y4] 103)).heap[w.heap.size + 1]? = some (.cells #[y0, y1, .string y2, y3, y4] 103 (0, 0)) := by have h := heap_alloc_new (w.alloc (.cells #[x0, x1, .string x2, x3, x4] 103)) (.cells #[y0, y1, .string y2, y3, y4] 103); rw [World.size_alloc] at h; exact h
  have hb : Below w.heap.size w ((w.alloc (.cells #[x0, x1, .string x2, x3, x4] 103)).alloc (.cells #[y0, y1, .string y2, y3, y4] 103)) := ((Below.refl _ _).alloc (Nat.le_refl _) _).alloc (by simp only [World.size_alloc]; omega) _
  have hz : w.heap.size + 1 < ((w.alloc (.cells #[x0, x1, .string x2, x3, x4] 103)).alloc (.cells #[y0, y1, .string y2, y3, y4] 103)).heap.size := by simp only [World.size_alloc]; omega
  have q0 := hide (fun W (hW : Below w.heap.size w W) => eqInt64S_a (h0.below hW (.inr (Nat.le_refl _))) (g0.below hW (.inr (Nat.le_refl _))) (by omega) (by omega))
  have q1 := hide (fun W (hW : Below w.heap.size w W) => eqTermS_a (h1.below hW (.inr (Nat.le_refl _))) (g1.below hW (.inr (Nat.le_refl _))) (by omega) (by omega))
  have q3 := hide (fun W (hW : Below w.heap.size w W) => eqTermSS_a (h3.below hW (.inr (Nat.le_refl _))) (g3.below hW (.inr (Nat.le_refl _))) (by omega) (by omega))
  have q4 := hide (fun W (hW : Below w.heap.size w W) => eqTermSS_a (h4.below hW (.inr (Nat.le_refl _))) (g4.below hW (.inr (Nat.le_refl _))) (by omega) (by omega))
  clear h0 g0 h1 g1 h3 g3 h4 g4
  by_cases he : (d0, d1, x2, d3, d4) = (e0, e1, y2, e3, e4)
  · have hE := hide he
    simp only [Prod.mk.injEq] at he
    obtain ⟨z0, z1, z2, z3, z4⟩ := he
    subst z2
    skip
    go_enter Try.func118, Try.ntmps118
    go_wp2_with fail
    try generalize ((w.alloc (.cells #[x0, x1, .string x2, x3, x4] 103)).alloc (.cells #[y0, y1, .string x2, y3, y4] 103)) = W at *
    have qq := q0.out _ hb
    rw [decide_eq_true z0] at qq
    replace qq := hide qq
    refine qq.out.mono ?_
    rintro r w1 ⟨rfl, hb1⟩
    clear qq
    replace k0 := (hb1.block _ (by omega)).trans k0
    replace k1 := (hb1.block _ (by omega)).trans k1
    replace hb := hb.trans (hb1.mono hb.size)
    replace hz := Nat.lt_of_lt_of_le hz hb1.size
    clear hb1
    have a0 : w1.cell? ⟨w.heap.size, 0, none⟩ = some (x0) := (cell_of_row _ _ 0 _ _ (0, 0) k0).trans rfl
    have b0 : w1.cell? ⟨w.heap.size + 1, 0, none⟩ = some (y0) := (cell_of_row _ _ 0 _ _ (0, 0) k1).trans rfl
    have a1 : w1.cell? ⟨w.heap.size, 1, none⟩ = some (x1) := (cell_of_row _ _ 1 _ _ (0, 0) k0).trans rfl
    have b1 : w1.cell? ⟨w.heap.size + 1, 1, none⟩ = some (y1) := (cell_of_row _ _ 1 _ _ (0, 0) k1).trans rfl
    have a2 : w1.cell? ⟨w.heap.size, 2, none⟩ = some (.string x2) := (cell_of_row _ _ 2 _ _ (0, 0) k0).trans rfl
    have b2 : w1.cell? ⟨w.heap.size + 1, 2, none⟩ = some (.string x2) := (cell_of_row _ _ 2 _ _ (0, 0) k1).trans rfl
    have a3 : w1.cell? ⟨w.heap.size, 3, none⟩ = some (x3) := (cell_of_row _ _ 3 _ _ (0, 0) k0).trans rfl
    have b3 : w1.cell? ⟨w.heap.size + 1, 3, none⟩ = some (y3) := (cell_of_row _ _ 3 _ _ (0, 0) k1).trans rfl
    have a4 : w1.cell? ⟨w.heap.size, 4, none⟩ = some (x4) := (cell_of_row _ _ 4 _ _ (0, 0) k0).trans rfl
    have b4 : w1.cell? ⟨w.heap.size + 1, 4, none⟩ = some (y4) := (cell_of_row _ _ 4 _ _ (0, 0) k1).trans rfl
    go_wp2_with fail
    have qq := q1.out _ hb
    rw [decide_eq_true z1] at qq
    replace qq := hide qq
    refine qq.out.mono ?_
    rintro r w2 ⟨rfl, hb1⟩
    clear a0 b0 a1 b1 a2 b2 a3 b3 a4 b4
    clear qq
    replace k0 := (hb1.block _ (by omega)).trans k0
    replace k1 := (hb1.block _ (by omega)).trans k1
    replace hb := hb.trans (hb1.mono hb.size)
    replace hz := Nat.lt_of_lt_of_le hz hb1.size
    clear hb1
    have a0 : w2.cell? ⟨w.heap.size, 0, none⟩ = some (x0) := (cell_of_row _ _ 0 _ _ (0, 0) k0).trans rfl
    have b0 : w2.cell? ⟨w.heap.size + 1, 0, none⟩ = some (y0) := (cell_of_row _ _ 0 _ _ (0, 0) k1).trans rfl
    have a1 : w2.cell? ⟨w.heap.size, 1, none⟩ = some (x1) := (cell_of_row _ _ 1 _ _ (0, 0) k0).trans rfl
    have b1 : w2.cell? ⟨w.heap.size + 1, 1, none⟩ = some (y1) := (cell_of_row _ _ 1 _ _ (0, 0) k1).trans rfl
    have a2 : w2.cell? ⟨w.heap.size, 2, none⟩ = some (.string x2) := (cell_of_row _ _ 2 _ _ (0, 0) k0).trans rfl
    have b2 : w2.cell? ⟨w.heap.size + 1, 2, none⟩ = some (.string x2) := (cell_of_row _ _ 2 _ _ (0, 0) k1).trans rfl
    have a3 : w2.cell? ⟨w.heap.size, 3, none⟩ = some (x3) := (cell_of_row _ _ 3 _ _ (0, 0) k0).trans rfl
    have b3 : w2.cell? ⟨w.heap.size + 1, 3, none⟩ = some (y3) := (cell_of_row _ _ 3 _ _ (0, 0) k1).trans rfl
    have a4 : w2.cell? ⟨w.heap.size, 4, none⟩ = some (x4) := (cell_of_row _ _ 4 _ _ (0, 0) k0).trans rfl
    have b4 : w2.cell? ⟨w.heap.size + 1, 4, none⟩ = some (y4) := (cell_of_row _ _ 4 _ _ (0, 0) k1).trans rfl
    go_wp2_with fail
    have qq := q3.out _ hb
    rw [decide_eq_true z3] at qq
    replace qq := hide qq
    refine qq.out.mono ?_
    rintro r w3 ⟨rfl, hb1⟩
    clear a0 b0 a1 b1 a2 b2 a3 b3 a4 b4
    clear qq
    replace k0 := (hb1.block _ (by omega)).trans k0
    replace k1 := (hb1.block _ (by omega)).trans k1
    replace hb := hb.trans (hb1.mono hb.size)
    replace hz := Nat.lt_of_lt_of_le hz hb1.size
    clear hb1
    have a0 : w3.cell? ⟨w.heap.size, 0, none⟩ = some (x0) := (cell_of_row _ _ 0 _ _ (0, 0) k0).trans rfl
    have b0 : w3.cell? ⟨w.heap.size + 1, 0, none⟩ = some (y0) := (cell_of_row _ _ 0 _ _ (0, 0) k1).trans rfl
    have a1 : w3.cell? ⟨w.heap.size, 1, none⟩ = some (x1) := (cell_of_row _ _ 1 _ _ (0, 0) k0).trans rfl
    have b1 : w3.cell? ⟨w.heap.size + 1, 1, none⟩ = some (y1) := (cell_of_row _ _ 1 _ _ (0, 0) k1).trans rfl
    have a2 : w3.cell? ⟨w.heap.size, 2, none⟩ = some (.string x2) := (cell_of_row _ _ 2 _ _ (0, 0) k0).trans rfl
    have b2 : w3.cell? ⟨w.heap.size + 1, 2, none⟩ = some (.string x2) := (cell_of_row _ _ 2 _ _ (0, 0) k1).trans rfl
    have a3 : w3.cell? ⟨w.heap.size, 3, none⟩ = some (x3) := (cell_of_row _ _ 3 _ _ (0, 0) k0).trans rfl
    have b3 : w3.cell? ⟨w.heap.size + 1, 3, none⟩ = some (y3) := (cell_of_row _ _ 3 _ _ (0, 0) k1).trans rfl
    have a4 : w3.cell? ⟨w.heap.size, 4, none⟩ = some (x4) := (cell_of_row _ _ 4 _ _ (0, 0) k0).trans rfl
    have b4 : w3.cell? ⟨w.heap.size + 1, 4, none⟩ = some (y4) := (cell_of_row _ _ 4 _ _ (0, 0) k1).trans rfl
    go_wp2_with fail
    have qq := q4.out _ hb
    rw [decide_eq_true z4] at qq
    replace qq := hide qq
    refine qq.out.mono ?_
    rintro r w4 ⟨rfl, hb1⟩
    clear a0 b0 a1 b1 a2 b2 a3 b3 a4 b4
    clear qq
    replace k0 := (hb1.block _ (by omega)).trans k0
    replace k1 := (hb1.block _ (by omega)).trans k1
    replace hb := hb.trans (hb1.mono hb.size)
    replace hz := Nat.lt_of_lt_of_le hz hb1.size
    clear hb1
    have a0 : w4.cell? ⟨w.heap.size, 0, none⟩ = some (x0) := (cell_of_row _ _ 0 _ _ (0, 0) k0).trans rfl
    have b0 : w4.cell? ⟨w.heap.size + 1, 0, none⟩ = some (y0) := (cell_of_row _ _ 0 _ _ (0, 0) k1).trans rfl
    have a1 : w4.cell? ⟨w.heap.size, 1, none⟩ = some (x1) := (cell_of_row _ _ 1 _ _ (0, 0) k0).trans rfl
    have b1 : w4.cell? ⟨w.heap.size + 1, 1, none⟩ = some (y1) := (cell_of_row _ _ 1 _ _ (0, 0) k1).trans rfl
    have a2 : w4.cell? ⟨w.heap.size, 2, none⟩ = some (.string x2) := (cell_of_row _ _ 2 _ _ (0, 0) k0).trans rfl
    have b2 : w4.cell? ⟨w.heap.size + 1, 2, none⟩ = some (.string x2) := (cell_of_row _ _ 2 _ _ (0, 0) k1).trans rfl
    have a3 : w4.cell? ⟨w.heap.size, 3, none⟩ = some (x3) := (cell_of_row _ _ 3 _ _ (0, 0) k0).trans rfl
    have b3 : w4.cell? ⟨w.heap.size + 1, 3, none⟩ = some (y3) := (cell_of_row _ _ 3 _ _ (0, 0) k1).trans rfl
    have a4 : w4.cell? ⟨w.heap.size, 4, none⟩ = some (x4) := (cell_of_row _ _ 4 _ _ (0, 0) k0).trans rfl
    have b4 : w4.cell? ⟨w.heap.size + 1, 4, none⟩ = some (y4) := (cell_of_row _ _ 4 _ _ (0, 0) k1).trans rfl
    go_wp2_with fail
    go_ret
    exact ⟨by rw [decide_eq_true hE.out]; rfl, hb⟩
  · have hN : Hid (¬ ((d0, d1, x2, d3, d4) = (e0, e1, y2, e3, e4))) := he
    by_cases c0 : d0 = e0
    · have z0 := hide c0
      clear c0
      by_cases c1 : d1 = e1
      · have z1 := hide c1
        clear c1
        by_cases c2 : x2 = y2
        · subst c2
          have z2 : x2 = x2 := rfl
          replace z2 := hide z2
          by_cases c3 : d3 = e3
          · have z3 := hide c3
            clear c3
            by_cases c4 : d4 = e4
            · have z4 := hide c4
              clear c4
              exact absurd (Prod.ext z0.out (Prod.ext z1.out (Prod.ext z2.out (Prod.ext z3.out (z4.out))))) hN.out
            · replace c4 := hide c4
              skip
              go_enter Try.func118, Try.ntmps118
              go_wp2_with fail
              try generalize ((w.alloc (.cells #[x0, x1, .string x2, x3, x4] 103)).alloc (.cells #[y0, y1, .string x2, y3, y4] 103)) = W at *
              have qq := q0.out _ hb
              rw [decide_eq_true z0.out] at qq
              replace qq := hide qq
              refine qq.out.mono ?_
              rintro r w1 ⟨rfl, hb1⟩
              clear qq
              replace k0 := (hb1.block _ (by omega)).trans k0
              replace k1 := (hb1.block _ (by omega)).trans k1
              replace hb := hb.trans (hb1.mono hb.size)
              replace hz := Nat.lt_of_lt_of_le hz hb1.size
              clear hb1
              have a0 : w1.cell? ⟨w.heap.size, 0, none⟩ = some (x0) := (cell_of_row _ _ 0 _ _ (0, 0) k0).trans rfl
              have b0 : w1.cell? ⟨w.heap.size + 1, 0, none⟩ = some (y0) := (cell_of_row _ _ 0 _ _ (0, 0) k1).trans rfl
              have a1 : w1.cell? ⟨w.heap.size, 1, none⟩ = some (x1) := (cell_of_row _ _ 1 _ _ (0, 0) k0).trans rfl
              have b1 : w1.cell? ⟨w.heap.size + 1, 1, none⟩ = some (y1) := (cell_of_row _ _ 1 _ _ (0, 0) k1).trans rfl
              have a2 : w1.cell? ⟨w.heap.size, 2, none⟩ = some (.string x2) := (cell_of_row _ _ 2 _ _ (0, 0) k0).trans rfl
              have b2 : w1.cell? ⟨w.heap.size + 1, 2, none⟩ = some (.string x2) := (cell_of_row _ _ 2 _ _ (0, 0) k1).trans rfl
              have a3 : w1.cell? ⟨w.heap.size, 3, none⟩ = some (x3) := (cell_of_row _ _ 3 _ _ (0, 0) k0).trans rfl
              have b3 : w1.cell? ⟨w.heap.size + 1, 3, none⟩ = some (y3) := (cell_of_row _ _ 3 _ _ (0, 0) k1).trans rfl
              have a4 : w1.cell? ⟨w.heap.size, 4, none⟩ = some (x4) := (cell_of_row _ _ 4 _ _ (0, 0) k0).trans rfl
              have b4 : w1.cell? ⟨w.heap.size + 1, 4, none⟩ = some (y4) := (cell_of_row _ _ 4 _ _ (0, 0) k1).trans rfl
              go_wp2_with fail
              have qq := q1.out _ hb
              rw [decide_eq_true z1.out] at qq
              replace qq := hide qq
              refine qq.out.mono ?_
              rintro r w2 ⟨rfl, hb1⟩
              clear a0 b0 a1 b1 a2 b2 a3 b3 a4 b4
              clear qq
              replace k0 := (hb1.block _ (by omega)).trans k0
              replace k1 := (hb1.block _ (by omega)).trans k1
              replace hb := hb.trans (hb1.mono hb.size)
              replace hz := Nat.lt_of_lt_of_le hz hb1.size
              clear hb1
              have a0 : w2.cell? ⟨w.heap.size, 0, none⟩ = some (x0) := (cell_of_row _ _ 0 _ _ (0, 0) k0).trans rfl
              have b0 : w2.cell? ⟨w.heap.size + 1, 0, none⟩ = some (y0) := (cell_of_row _ _ 0 _ _ (0, 0) k1).trans rfl
              have a1 : w2.cell? ⟨w.heap.size, 1, none⟩ = some (x1) := (cell_of_row _ _ 1 _ _ (0, 0) k0).trans rfl
              have b1 : w2.cell? ⟨w.heap.size + 1, 1, none⟩ = some (y1) := (cell_of_row _ _ 1 _ _ (0, 0) k1).trans rfl
              have a2 : w2.cell? ⟨w.heap.size, 2, none⟩ = some (.string x2) := (cell_of_row _ _ 2 _ _ (0, 0) k0).trans rfl
              have b2 : w2.cell? ⟨w.heap.size + 1, 2, none⟩ = some (.string x2) := (cell_of_row _ _ 2 _ _ (0, 0) k1).trans rfl
              have a3 : w2.cell? ⟨w.heap.size, 3, none⟩ = some (x3) := (cell_of_row _ _ 3 _ _ (0, 0) k0).trans rfl
              have b3 : w2.cell? ⟨w.heap.size + 1, 3, none⟩ = some (y3) := (cell_of_row _ _ 3 _ _ (0, 0) k1).trans rfl
              have a4 : w2.cell? ⟨w.heap.size, 4, none⟩ = some (x4) := (cell_of_row _ _ 4 _ _ (0, 0) k0).trans rfl
              have b4 : w2.cell? ⟨w.heap.size + 1, 4, none⟩ = some (y4) := (cell_of_row _ _ 4 _ _ (0, 0) k1).trans rfl
              go_wp2_with fail
              have qq := q3.out _ hb
              rw [decide_eq_true z3.out] at qq
              replace qq := hide qq
              refine qq.out.mono ?_
              rintro r w3 ⟨rfl, hb1⟩
              clear a0 b0 a1 b1 a2 b2 a3 b3 a4 b4
              clear qq
              replace k0 := (hb1.block _ (by omega)).trans k0
              replace k1 := (hb1.block _ (by omega)).trans k1
              replace hb := hb.trans (hb1.mono hb.size)
              replace hz := Nat.lt_of_lt_of_le hz hb1.size
              clear hb1
              have a0 : w3.cell? ⟨w.heap.size, 0, none⟩ = some (x0) := (cell_of_row _ _ 0 _ _ (0, 0) k0).trans rfl
              have b0 : w3.cell? ⟨w.heap.size + 1, 0, none⟩ = some (y0) := (cell_of_row _ _ 0 _ _ (0, 0) k1).trans rfl
              have a1 : w3.cell? ⟨w.heap.size, 1, none⟩ = some (x1) := (cell_of_row _ _ 1 _ _ (0, 0) k0).trans rfl
              have b1 : w3.cell? ⟨w.heap.size + 1, 1, none⟩ = some (y1) := (cell_of_row _ _ 1 _ _ (0, 0) k1).trans rfl
              have a2 : w3.cell? ⟨w.heap.size, 2, none⟩ = some (.string x2) := (cell_of_row _ _ 2 _ _ (0, 0) k0).trans rfl
              have b2 : w3.cell? ⟨w.heap.size + 1, 2, none⟩ = some (.string x2) := (cell_of_row _ _ 2 _ _ (0, 0) k1).trans rfl
              have a3 : w3.cell? ⟨w.heap.size, 3, none⟩ = some (x3) := (cell_of_row _ _ 3 _ _ (0, 0) k0).trans rfl
              have b3 : w3.cell? ⟨w.heap.size + 1, 3, none⟩ = some (y3) := (cell_of_row _ _ 3 _ _ (0, 0) k1).trans rfl
              have a4 : w3.cell? ⟨w.heap.size, 4, none⟩ = some (x4) := (cell_of_row _ _ 4 _ _ (0, 0) k0).trans rfl
              have b4 : w3.cell? ⟨w.heap.size + 1, 4, none⟩ = some (y4) := (cell_of_row _ _ 4 _ _ (0, 0) k1).trans rfl
              go_wp2_with fail
              have qq := q4.out _ hb
              rw [decide_eq_false c4.out] at qq
              replace qq := hide qq
              refine qq.out.mono ?_
              rintro r w4 ⟨rfl, hb1⟩
              clear a0 b0 a1 b1 a2 b2 a3 b3 a4 b4
              clear qq
              replace k0 := (hb1.block _ (by omega)).trans k0
              replace k1 := (hb1.block _ (by omega)).trans k1
              replace hb := hb.trans (hb1.mono hb.size)
              replace hz := Nat.lt_of_lt_of_le hz hb1.size
              clear hb1
              have a0 : w4.cell? ⟨w.heap.size, 0, none⟩ = some (x0) := (cell_of_row _ _ 0 _ _ (0, 0) k0).trans rfl
              have b0 : w4.cell? ⟨w.heap.size + 1, 0, none⟩ = some (y0) := (cell_of_row _ _ 0 _ _ (0, 0) k1).trans rfl
              have a1 : w4.cell? ⟨w.heap.size, 1, none⟩ = some (x1) := (cell_of_row _ _ 1 _ _ (0, 0) k0).trans rfl
              have b1 : w4.cell? ⟨w.heap.size + 1, 1, none⟩ = some (y1) := (cell_of_row _ _ 1 _ _ (0, 0) k1).trans rfl
              have a2 : w4.cell? ⟨w.heap.size, 2, none⟩ = some (.string x2) := (cell_of_row _ _ 2 _ _ (0, 0) k0).trans rfl
              have b2 : w4.cell? ⟨w.heap.size + 1, 2, none⟩ = some (.string x2) := (cell_of_row _ _ 2 _ _ (0, 0) k1).trans rfl
              have a3 : w4.cell? ⟨w.heap.size, 3, none⟩ = some (x3) := (cell_of_row _ _ 3 _ _ (0, 0) k0).trans rfl
              have b3 : w4.cell? ⟨w.heap.size + 1, 3, none⟩ = some (y3) := (cell_of_row _ _ 3 _ _ (0, 0) k1).trans rfl
              have a4 : w4.cell? ⟨w.heap.size, 4, none⟩ = some (x4) := (cell_of_row _ _ 4 _ _ (0, 0) k0).trans rfl
              have b4 : w4.cell? ⟨w.heap.size + 1, 4, none⟩ = some (y4) := (cell_of_row _ _ 4 _ _ (0, 0) k1).trans rfl
              go_wp2_with fail
              go_ret
              exact ⟨by rw [decide_eq_false hN.out]; rfl, hb⟩
          · replace c3 := hide c3
            clear q4
            go_enter Try.func118, Try.ntmps118
            go_wp2_with fail
            try generalize ((w.alloc (.cells #[x0, x1, .string x2, x3, x4] 103)).alloc (.cells #[y0, y1, .string x2, y3, y4] 103)) = W at *
            have qq := q0.out _ hb
            rw [decide_eq_true z0.out] at qq
            replace qq := hide qq
            refine qq.out.mono ?_
            rintro r w1 ⟨rfl, hb1⟩
            clear qq
            replace k0 := (hb1.block _ (by omega)).trans k0
            replace k1 := (hb1.block _ (by omega)).trans k1
            replace hb := hb.trans (hb1.mono hb.size)
            replace hz := Nat.lt_of_lt_of_le hz hb1.size
            clear hb1
            have a0 : w1.cell? ⟨w.heap.size, 0, none⟩ = some (x0) := (cell_of_row _ _ 0 _ _ (0, 0) k0).trans rfl
            have b0 : w1.cell? ⟨w.heap.size + 1, 0, none⟩ = some (y0) := (cell_of_row _ _ 0 _ _ (0, 0) k1).trans rfl
            have a1 : w1.cell? ⟨w.heap.size, 1, none⟩ = some (x1) := (cell_of_row _ _ 1 _ _ (0, 0) k0).trans rfl
            have b1 : w1.cell? ⟨w.heap.size + 1, 1, none⟩ = some (y1) := (cell_of_row _ _ 1 _ _ (0, 0) k1).trans rfl
            have a2 : w1.cell? ⟨w.heap.size, 2, none⟩ = some (.string x2) := (cell_of_row _ _ 2 _ _ (0, 0) k0).trans rfl
            have b2 : w1.cell? ⟨w.heap.size + 1, 2, none⟩ = some (.string x2) := (cell_of_row _ _ 2 _ _ (0, 0) k1).trans rfl
            have a3 : w1.cell? ⟨w.heap.size, 3, none⟩ = some (x3) := (cell_of_row _ _ 3 _ _ (0, 0) k0).trans rfl
            have b3 : w1.cell? ⟨w.heap.size + 1, 3, none⟩ = some (y3) := (cell_of_row _ _ 3 _ _ (0, 0) k1).trans rfl
            have a4 : w1.cell? ⟨w.heap.size, 4, none⟩ = some (x4) := (cell_of_row _ _ 4 _ _ (0, 0) k0).trans rfl
            have b4 : w1.cell? ⟨w.heap.size + 1, 4, none⟩ = some (y4) := (cell_of_row _ _ 4 _ _ (0, 0) k1).trans rfl
            go_wp2_with fail
            have qq := q1.out _ hb
            rw [decide_eq_true z1.out] at qq
            replace qq := hide qq
            refine qq.out.mono ?_
            rintro r w2 ⟨rfl, hb1⟩
            clear a0 b0 a1 b1 a2 b2 a3 b3 a4 b4
            clear qq
            replace k0 := (hb1.block _ (by omega)).trans k0
            replace k1 := (hb1.block _ (by omega)).trans k1
            replace hb := hb.trans (hb1.mono hb.size)
            replace hz := Nat.lt_of_lt_of_le hz hb1.size
            clear hb1
            have a0 : w2.cell? ⟨w.heap.size, 0, none⟩ = some (x0) := (cell_of_row _ _ 0 _ _ (0, 0) k0).trans rfl
            have b0 : w2.cell? ⟨w.heap.size + 1, 0, none⟩ = some (y0) := (cell_of_row _ _ 0 _ _ (0, 0) k1).trans rfl
            have a1 : w2.cell? ⟨w.heap.size, 1, none⟩ = some (x1) := (cell_of_row _ _ 1 _ _ (0, 0) k0).trans rfl
            have b1 : w2.cell? ⟨w.heap.size + 1, 1, none⟩ = some (y1) := (cell_of_row _ _ 1 _ _ (0, 0) k1).trans rfl
            have a2 : w2.cell? ⟨w.heap.size, 2, none⟩ = some (.string x2) := (cell_of_row _ _ 2 _ _ (0, 0) k0).trans rfl
            have b2 : w2.cell? ⟨w.heap.size + 1, 2, none⟩ = some (.string x2) := (cell_of_row _ _ 2 _ _ (0, 0) k1).trans rfl
            have a3 : w2.cell? ⟨w.heap.size, 3, none⟩ = some (x3) := (cell_of_row _ _ 3 _ _ (0, 0) k0).trans rfl
            have b3 : w2.cell? ⟨w.heap.size + 1, 3, none⟩ = some (y3) := (cell_of_row _ _ 3 _ _ (0, 0) k1).trans rfl
            have a4 : w2.cell? ⟨w.heap.size, 4, none⟩ = some (x4) := (cell_of_row _ _ 4 _ _ (0, 0) k0).trans rfl
            have b4 : w2.cell? ⟨w.heap.size + 1, 4, none⟩ = some (y4) := (cell_of_row _ _ 4 _ _ (0, 0) k1).trans rfl
            go_wp2_with fail
            have qq := q3.out _ hb
            rw [decide_eq_false c3.out] at qq
            replace qq := hide qq
            refine qq.out.mono ?_
            rintro r w3 ⟨rfl, hb1⟩
            clear a0 b0 a1 b1 a2 b2 a3 b3 a4 b4
            clear qq
            replace k0 := (hb1.block _ (by omega)).trans k0
            replace k1 := (hb1.block _ (by omega)).trans k1
            replace hb := hb.trans (hb1.mono hb.size)
            replace hz := Nat.lt_of_lt_of_le hz hb1.size
            clear hb1
            have a0 : w3.cell? ⟨w.heap.size, 0, none⟩ = some (x0) := (cell_of_row _ _ 0 _ _ (0, 0) k0).trans rfl
            have b0 : w3.cell? ⟨w.heap.size + 1, 0, none⟩ = some (y0) := (cell_of_row _ _ 0 _ _ (0, 0) k1).trans rfl
            have a1 : w3.cell? ⟨w.heap.size, 1, none⟩ = some (x1) := (cell_of_row _ _ 1 _ _ (0, 0) k0).trans rfl
            have b1 : w3.cell? ⟨w.heap.size + 1, 1, none⟩ = some (y1) := (cell_of_row _ _ 1 _ _ (0, 0) k1).trans rfl
            have a2 : w3.cell? ⟨w.heap.size, 2, none⟩ = some (.string x2) := (cell_of_row _ _ 2 _ _ (0, 0) k0).trans rfl
            have b2 : w3.cell? ⟨w.heap.size + 1, 2, none⟩ = some (.string x2) := (cell_of_row _ _ 2 _ _ (0, 0) k1).trans rfl
            have a3 : w3.cell? ⟨w.heap.size, 3, none⟩ = some (x3) := (cell_of_row _ _ 3 _ _ (0, 0) k0).trans rfl
            have b3 : w3.cell? ⟨w.heap.size + 1, 3, none⟩ = some (y3) := (cell_of_row _ _ 3 _ _ (0, 0) k1).trans rfl
            have a4 : w3.cell? ⟨w.heap.size, 4, none⟩ = some (x4) := (cell_of_row _ _ 4 _ _ (0, 0) k0).trans rfl
            have b4 : w3.cell? ⟨w.heap.size + 1, 4, none⟩ = some (y4) := (cell_of_row _ _ 4 _ _ (0, 0) k1).trans rfl
            go_wp2_with fail
            go_ret
            exact ⟨by rw [decide_eq_false hN.out]; rfl, hb⟩
        · have cc : (x2.toList == y2.toList) = false := str_ne c2
          clear q3 q4
          go_enter Try.func118, Try.ntmps118
          go_wp2_with fail
          try generalize ((w.alloc (.cells #[x0, x1, .string x2, x3, x4] 103)).alloc (.cells #[y0, y1, .string y2, y3, y4] 103)) = W at *
          have qq := q0.out _ hb
          rw [decide_eq_true z0.out] at qq
          replace qq := hide qq
          refine qq.out.mono ?_
          rintro r w1 ⟨rfl, hb1⟩
          clear qq
          replace k0 := (hb1.block _ (by omega)).trans k0
          replace k1 := (hb1.block _ (by omega)).trans k1
          replace hb := hb.trans (hb1.mono hb.size)
          replace hz := Nat.lt_of_lt_of_le hz hb1.size
          clear hb1
          have a0 : w1.cell? ⟨w.heap.size, 0, none⟩ = some (x0) := (cell_of_row _ _ 0 _ _ (0, 0) k0).trans rfl
          have b0 : w1.cell? ⟨w.heap.size + 1, 0, none⟩ = some (y0) := (cell_of_row _ _ 0 _ _ (0, 0) k1).trans rfl
          have a1 : w1.cell? ⟨w.heap.size, 1, none⟩ = some (x1) := (cell_of_row _ _ 1 _ _ (0, 0) k0).trans rfl
          have b1 : w1.cell? ⟨w.heap.size + 1, 1, none⟩ = some (y1) := (cell_of_row _ _ 1 _ _ (0, 0) k1).trans rfl
          have a2 : w1.cell? ⟨w.heap.size, 2, none⟩ = some (.string x2) := (cell_of_row _ _ 2 _ _ (0, 0) k0).trans rfl
          have b2 : w1.cell? ⟨w.heap.size + 1, 2, none⟩ = some (.string y2) := (cell_of_row _ _ 2 _ _ (0, 0) k1).trans rfl
          have a3 : w1.cell? ⟨w.heap.size, 3, none⟩ = some (x3) := (cell_of_row _ _ 3 _ _ (0, 0) k0).trans rfl
          have b3 : w1.cell? ⟨w.heap.size + 1, 3, none⟩ = some (y3) := (cell_of_row _ _ 3 _ _ (0, 0) k1).trans rfl
          have a4 : w1.cell? ⟨w.heap.size, 4, none⟩ = some (x4) := (cell_of_row _ _ 4 _ _ (0, 0) k0).trans rfl
          have b4 : w1.cell? ⟨w.heap.size + 1, 4, none⟩ = some (y4) := (cell_of_row _ _ 4 _ _ (0, 0) k1).trans rfl
          go_wp2_with fail
          have qq := q1.out _ hb
          rw [decide_eq_true z1.out] at qq
          replace qq := hide qq
          refine qq.out.mono ?_
          rintro r w2 ⟨rfl, hb1⟩
          clear a0 b0 a1 b1 a2 b2 a3 b3 a4 b4
          clear qq
          replace k0 := (hb1.block _ (by omega)).trans k0
          replace k1 := (hb1.block _ (by omega)).trans k1
          replace hb := hb.trans (hb1.mono hb.size)
          replace hz := Nat.lt_of_lt_of_le hz hb1.size
          clear hb1
          have a0 : w2.cell? ⟨w.heap.size, 0, none⟩ = some (x0) := (cell_of_row _ _ 0 _ _ (0, 0) k0).trans rfl
          have b0 : w2.cell? ⟨w.heap.size + 1, 0, none⟩ = some (y0) := (cell_of_row _ _ 0 _ _ (0, 0) k1).trans rfl
          have a1 : w2.cell? ⟨w.heap.size, 1, none⟩ = some (x1) := (cell_of_row _ _ 1 _ _ (0, 0) k0).trans rfl
          have b1 : w2.cell? ⟨w.heap.size + 1, 1, none⟩ = some (y1) := (cell_of_row _ _ 1 _ _ (0, 0) k1).trans rfl
          have a2 : w2.cell? ⟨w.heap.size, 2, none⟩ = some (.string x2) := (cell_of_row _ _ 2 _ _ (0, 0) k0).trans rfl
          have b2 : w2.cell? ⟨w.heap.size + 1, 2, none⟩ = some (.string y2) := (cell_of_row _ _ 2 _ _ (0, 0) k1).trans rfl
          have a3 : w2.cell? ⟨w.heap.size, 3, none⟩ = some (x3) := (cell_of_row _ _ 3 _ _ (0, 0) k0).trans rfl
          have b3 : w2.cell? ⟨w.heap.size + 1, 3, none⟩ = some (y3) := (cell_of_row _ _ 3 _ _ (0, 0) k1).trans rfl
          have a4 : w2.cell? ⟨w.heap.size, 4, none⟩ = some (x4) := (cell_of_row _ _ 4 _ _ (0, 0) k0).trans rfl
          have b4 : w2.cell? ⟨w.heap.size + 1, 4, none⟩ = some (y4) := (cell_of_row _ _ 4 _ _ (0, 0) k1).trans rfl
          go_wp2_with fail
          go_ret
          exact ⟨by rw [decide_eq_false hN.out]; rfl, hb⟩
      · replace c1 := hide c1
        clear q3 q4
        go_enter Try.func118, Try.ntmps118
        go_wp2_with fail
        try generalize ((w.alloc (.cells #[x0, x1, .string x2, x3, x4] 103)).alloc (.cells #[y0, y1, .string y2, y3, y4] 103)) = W at *
        have qq := q0.out _ hb
        rw [decide_eq_true z0.out] at qq
        replace qq := hide qq
        refine qq.out.mono ?_
        rintro r w1 ⟨rfl, hb1⟩
        clear qq
        replace k0 := (hb1.block _ (by omega)).trans k0
        replace k1 := (hb1.block _ (by omega)).trans k1
        replace hb := hb.trans (hb1.mono hb.size)
        replace hz := Nat.lt_of_lt_of_le hz hb1.size
        clear hb1
        have a0 : w1.cell? ⟨w.heap.size, 0, none⟩ = some (x0) := (cell_of_row _ _ 0 _ _ (0, 0) k0).trans rfl
        have b0 : w1.cell? ⟨w.heap.size + 1, 0, none⟩ = some (y0) := (cell_of_row _ _ 0 _ _ (0, 0) k1).trans rfl
        have a1 : w1.cell? ⟨w.heap.size, 1, none⟩ = some (x1) := (cell_of_row _ _ 1 _ _ (0, 0) k0).trans rfl
        have b1 : w1.cell? ⟨w.heap.size + 1, 1, none⟩ = some (y1) := (cell_of_row _ _ 1 _ _ (0, 0) k1).trans rfl
        have a2 : w1.cell? ⟨w.heap.size, 2, none⟩ = some (.string x2) := (cell_of_row _ _ 2 _ _ (0, 0) k0).trans rfl
        have b2 : w1.cell? ⟨w.heap.size + 1, 2, none⟩ = some (.string y2) := (cell_of_row _ _ 2 _ _ (0, 0) k1).trans rfl
        have a3 : w1.cell? ⟨w.heap.size, 3, none⟩ = some (x3) := (cell_of_row _ _ 3 _ _ (0, 0) k0).trans rfl
        have b3 : w1.cell? ⟨w.heap.size + 1, 3, none⟩ = some (y3) := (cell_of_row _ _ 3 _ _ (0, 0) k1).trans rfl
        have a4 : w1.cell? ⟨w.heap.size, 4, none⟩ = some (x4) := (cell_of_row _ _ 4 _ _ (0, 0) k0).trans rfl
        have b4 : w1.cell? ⟨w.heap.size + 1, 4, none⟩ = some (y4) := (cell_of_row _ _ 4 _ _ (0, 0) k1).trans rfl
        go_wp2_with fail
        have qq := q1.out _ hb
        rw [decide_eq_false c1.out] at qq
        replace qq := hide qq
        refine qq.out.mono ?_
        rintro r w2 ⟨rfl, hb1⟩
        clear a0 b0 a1 b1 a2 b2 a3 b3 a4 b4
        clear qq
        replace k0 := (hb1.block _ (by omega)).trans k0
        replace k1 := (hb1.block _ (by omega)).trans k1
        replace hb := hb.trans (hb1.mono hb.size)
        replace hz := Nat.lt_of_lt_of_le hz hb1.size
        clear hb1
        have a0 : w2.cell? ⟨w.heap.size, 0, none⟩ = some (x0) := (cell_of_row _ _ 0 _ _ (0, 0) k0).trans rfl
        have b0 : w2.cell? ⟨w.heap.size + 1, 0, none⟩ = some (y0) := (cell_of_row _ _ 0 _ _ (0, 0) k1).trans rfl
        have a1 : w2.cell? ⟨w.heap.size, 1, none⟩ = some (x1) := (cell_of_row _ _ 1 _ _ (0, 0) k0).trans rfl
        have b1 : w2.cell? ⟨w.heap.size + 1, 1, none⟩ = some (y1) := (cell_of_row _ _ 1 _ _ (0, 0) k1).trans rfl
        have a2 : w2.cell? ⟨w.heap.size, 2, none⟩ = some (.string x2) := (cell_of_row _ _ 2 _ _ (0, 0) k0).trans rfl
        have b2 : w2.cell? ⟨w.heap.size + 1, 2, none⟩ = some (.string y2) := (cell_of_row _ _ 2 _ _ (0, 0) k1).trans rfl
        have a3 : w2.cell? ⟨w.heap.size, 3, none⟩ = some (x3) := (cell_of_row _ _ 3 _ _ (0, 0) k0).trans rfl
        have b3 : w2.cell? ⟨w.heap.size + 1, 3, none⟩ = some (y3) := (cell_of_row _ _ 3 _ _ (0, 0) k1).trans rfl
        have a4 : w2.cell? ⟨w.heap.size, 4, none⟩ = some (x4) := (cell_of_row _ _ 4 _ _ (0, 0) k0).trans rfl
        have b4 : w2.cell? ⟨w.heap.size + 1, 4, none⟩ = some (y4) := (cell_of_row _ _ 4 _ _ (0, 0) k1).trans rfl
        go_wp2_with fail
        go_ret
        exact ⟨by rw [decide_eq_false hN.out]; rfl, hb⟩
    · replace c0 := hide c0
      clear q1 q3 q4
      go_enter Try.func118, Try.ntmps118
      go_wp2_with fail
      try generalize ((w.alloc (.cells #[x0, x1, .string x2, x3, x4] 103)).alloc (.cells #[y0, y1, .string y2, y3, y4] 103)) = W at *
      have qq := q0.out _ hb
      rw [decide_eq_false c0.out] at qq
      replace qq := hide qq
      refine qq.out.mono ?_
      rintro r w1 ⟨rfl, hb1⟩
      clear qq
      replace k0 := (hb1.block _ (by omega)).trans k0
      replace k1 := (hb1.block _ (by omega)).trans k1
      replace hb := hb.trans (hb1.mono hb.size)
      replace hz := Nat.lt_of_lt_of_le hz hb1.size
      clear hb1
      have a0 : w1.cell? ⟨w.heap.size, 0, none⟩ = some (x0) := (cell_of_row _ _ 0 _ _ (0, 0) k0).trans rfl
      have b0 : w1.cell? ⟨w.heap.size + 1, 0, none⟩ = some (y0) := (cell_of_row _ _ 0 _ _ (0, 0) k1).trans rfl
      have a1 : w1.cell? ⟨w.heap.size, 1, none⟩ = some (x1) := (cell_of_row _ _ 1 _ _ (0, 0) k0).trans rfl
      have b1 : w1.cell? ⟨w.heap.size + 1, 1, none⟩ = some (y1) := (cell_of_row _ _ 1 _ _ (0, 0) k1).trans rfl
      have a2 : w1.cell? ⟨w.heap.size, 2, none⟩ = some (.string x2) := (cell_of_row _ _ 2 _ _ (0, 0) k0).trans rfl
      have b2 : w1.cell? ⟨w.heap.size + 1, 2, none⟩ = some (.string y2) := (cell_of_row _ _ 2 _ _ (0, 0) k1).trans rfl
      have a3 : w1.cell? ⟨w.heap.size, 3, none⟩ = some (x3) := (cell_of_row _ _ 3 _ _ (0, 0) k0).trans rfl
      have b3 : w1.cell? ⟨w.heap.size + 1, 3, none⟩ = some (y3) := (cell_of_row _ _ 3 _ _ (0, 0) k1).trans rfl
      have a4 : w1.cell? ⟨w.heap.size, 4, none⟩ = some (x4) := (cell_of_row _ _ 4 _ _ (0, 0) k0).trans rfl
      have b4 : w1.cell? ⟨w.heap.size + 1, 4, none⟩ = some (y4) := (cell_of_row _ _ 4 _ _ (0, 0) k1).trans rfl
      go_wp2_with fail
      go_ret
      exact ⟨by rw [decide_eq_false hN.out]; rfl, hb⟩

end Go.Proofs.Ytdjhpdmpibokhaa
