/-
  Equation systems as arguments of a law: words, and the helpers' contracts in one shape. Conditions: none.
-/
import Derived.Test.YtbnneahjjcamlaaArgI
import Derived.Test.YtbnneahjjcamlaaEqs
import Derived.StillTailTactics
import Derived.Outline
namespace Go.Proofs.Ytbnneahjjcamlaa
open Go.ChangeShapes Go.WideShapes Go.ChangeAt Go.RowKit Go.Deep
set_option linter.unusedVariables false

abbrev CE := Bool × Bool × Hd
def hdE (x : CE) : Hd := x.2.2
def gE (x : CE) : List Value := [.bool x.1, .bool x.2.1, .slice x.2.2.1 x.2.2.2.1 x.2.2.2.2]
def dE (r : CE × List Int) : Ex := (r.1.1, r.1.2.1, r.2)
def totE (d : DE) : Nat := d.length + (d.map fun x => x.2.2.length).sum
abbrev RowsE (most : Nat) := RowsG hdE 3 gE 1 iv most
abbrev NestE := NestG hdE 3 gE 1 iv
def ArgE (w : World) (lo hi : Nat) (v : Value) (d : DE) : Prop := ∃ A n c R, v = .slice A n c ∧ n ≤ maxLen ∧ RowsE maxLen w lo hi A n R ∧ R.map dE = d
def FreshE (w : World) (lo hi : Nat) (v : Value) (d : DE) : Prop := ∃ A n R, v = .slice A n n ∧ NestE w lo hi A n R ∧ R.map dE = d ∧ totE d ≤ 1048576

theorem ArgE.below {w w' : World} {lo hi B : Nat} {v : Value} {d : DE} (h : ArgE w lo hi v d) (hb : Below B w w') (hB : hi ≤ B ∨ w.heap.size ≤ B) : ArgE w' lo hi v d := by
  obtain ⟨A, n, c, R, h1, h2, h3, h4⟩ := h
  exact ⟨A, n, c, R, h1, h2, h3.below hb hB, h4⟩
theorem ArgE.only {w w' : World} {lo hi lo' hi' : Nat} {v : Value} {d : DE} (h : ArgE w lo hi v d) (g : Only lo' hi' w w') (hd : hi ≤ lo' ∨ hi' ≤ lo) : ArgE w' lo hi v d := by
  obtain ⟨A, n, c, R, h1, h2, h3, h4⟩ := h
  exact ⟨A, n, c, R, h1, h2, h3.only g hd, h4⟩
theorem FreshE.below {w w' : World} {lo hi B : Nat} {v : Value} {d : DE} (h : FreshE w lo hi v d) (hb : Below B w w') (hB : hi ≤ B ∨ w.heap.size ≤ B) : FreshE w' lo hi v d := by
  obtain ⟨A, n, R, h1, h2, h3⟩ := h
  exact ⟨A, n, R, h1, h2.below hb hB, h3⟩
theorem FreshE.only {w w' : World} {lo hi lo' hi' : Nat} {v : Value} {d : DE} (h : FreshE w lo hi v d) (g : Only lo' hi' w w') (hd : hi ≤ lo' ∨ hi' ≤ lo) : FreshE w' lo hi v d := by
  obtain ⟨A, n, R, h1, h2, h3⟩ := h
  exact ⟨A, n, R, h1, h2.only g hd, h3⟩
theorem totE_of {R : List (CE × List Int)} {most : Nat} {w : World} {lo hi n : Nat} {A : Option Addr} (h : RowsE most w lo hi A n R) : n + preG hdE R n = totE (R.map dE) := by
  unfold totE preG
  rw [List.length_map, h.len, List.take_of_length_le (by rw [h.len]; exact Nat.le_refl _), List.map_map]
  congr 2
  apply List.map_congr_left
  intro r hr
  exact (h.rows r hr).1.len.symm

/-- Element k. -/
theorem RowsG.atE {most : Nat} {w : World} {lo hi n k : Nat} {A : Option Addr} {R : List (CE × List Int)} (h : RowsE most w lo hi A n R) (hk : k < n) :
    ∃ b off x y Ah nh ch s, A = some ⟨b, off, none⟩ ∧ lo ≤ b ∧ b < hi ∧ b < w.heap.size ∧ R[k]? = some ((x, y, Ah, nh, ch), s) ∧ w.cell? ⟨b, off + k * 3, none⟩ = some (.bool x) ∧ w.cell? ⟨b, off + k * 3 + 1, none⟩ = some (.bool y) ∧ w.cell? ⟨b, off + k * 3 + 2, none⟩ = some (.slice Ah nh ch) ∧
      w.frozen? ⟨b, off + k * 3, none⟩ = false ∧ w.frozen? ⟨b, off + k * 3 + 1, none⟩ = false ∧ SlI w lo hi Ah nh s ∧ nh ≤ most := by
  obtain ⟨b, off, ⟨x, y, Ah, nh, ch⟩, s, e, g1, g2, g3, hr, hc, hs, hn⟩ := h.get hk
  exact ⟨b, off, x, y, Ah, nh, ch, s, e, g1, g2, g3, hr, (hc 0 _ rfl).1, (hc 1 _ rfl).1, (hc 2 _ rfl).1, (hc 0 _ rfl).2, (hc 1 _ rfl).2, hs, hn⟩

/-- One element's cells, and what they read as. -/
abbrev CEx := Bool × Bool × Value
abbrev DEx := Ex
def ReadEx (w : World) (lo hi : Nat) (x : CEx) (d : DEx) : Prop := x.1 = d.1 ∧ x.2.1 = d.2.1 ∧ ArgI w lo hi x.2.2 d.2.2
def totEx (d : DEx) : Nat := d.2.2.length

set_option maxHeartbeats 1600000 in
set_option maxRecDepth 100000 in
theorem toEx_a {x : CEx} {d : DEx} {w : World} {lo hi : Nat} (h : ReadEx w lo hi x d) (ht : totEx d ≤ 1048576) :
    Calls Try.prog 51 #[.agg #[.bool x.1, .bool x.2.1, x.2.2]] w fun e w' => ∃ y : CEx, e = .returned (.agg #[.bool y.1, .bool y.2.1, y.2.2]) ∧ ReadEx w' w.heap.size w'.heap.size y d ∧ Below w.heap.size w w' := by
  obtain ⟨v0, v1, v2⟩ := x
  obtain ⟨d0, d1, d2⟩ := d
  obtain ⟨rfl, rfl, t2⟩ := h
  dsimp only at *
  simp only [totEx] at ht
  have q2 := hide (fun W (hW : Below w.heap.size w W) => toInt64S_a (t2.below hW (.inr (Nat.le_refl _))) (by omega))
  clear t2
  have k0 : (((w.alloc (.cells #[.bool v0, .bool v1, v2] 73)).alloc (.cells #[.bool false, .bool false, .slice none 0 0] 76)).alloc (.cells #[.bool v0, .bool v1, .slice none 0 0] 76)).heap[w.heap.size]? = some (.cells #[.bool v0, .bool v1, v2] 73 (0, 0)) := (Below.heap_alloc _ _ _ (by simp only [World.size_alloc]; omega)).trans ((Below.heap_alloc _ _ _ (by simp only [World.size_alloc]; omega)).trans (heap_alloc_new w _))
  have k1 : (((w.alloc (.cells #[.bool v0, .bool v1, v2] 73)).alloc (.cells #[.bool false, .bool false, .slice none 0 0] 76)).alloc (.cells #[.bool v0, .bool v1, .slice none 0 0] 76)).heap[w.heap.size + 1]? = some (.cells #[.bool false, .bool false, .slice none 0 0] 76 (0, 0)) := by have h := heap_alloc_new (w.alloc (.cells #[.bool v0, .bool v1, v2] 73)) (.cells #[.bool false, .bool false, .slice none 0 0] 76); rw [World.size_alloc] at h; exact (Below.heap_alloc _ _ _ (by simp only [World.size_alloc]; omega)).trans h
  have k2 : (((w.alloc (.cells #[.bool v0, .bool v1, v2] 73)).alloc (.cells #[.bool false, .bool false, .slice none 0 0] 76)).alloc (.cells #[.bool v0, .bool v1, .slice none 0 0] 76)).heap[w.heap.size + 1 + 1]? = some (.cells #[.bool v0, .bool v1, .slice none 0 0] 76 (0, 0)) := by have h := heap_alloc_new ((w.alloc (.cells #[.bool v0, .bool v1, v2] 73)).alloc (.cells #[.bool false, .bool false, .slice none 0 0] 76)) (.cells #[.bool v0, .bool v1, .slice none 0 0] 76); rw [World.size_alloc, World.size_alloc] at h; exact h
  have hb : Below w.heap.size w (((w.alloc (.cells #[.bool v0, .bool v1, v2] 73)).alloc (.cells #[.bool false, .bool false, .slice none 0 0] 76)).alloc (.cells #[.bool v0, .bool v1, .slice none 0 0] 76)) := (((Below.refl _ _).alloc (Nat.le_refl _) _).alloc (by simp only [World.size_alloc]; omega) _).alloc (by simp only [World.size_alloc]; omega) _
  have hz : w.heap.size + 1 + 1 < (((w.alloc (.cells #[.bool v0, .bool v1, v2] 73)).alloc (.cells #[.bool false, .bool false, .slice none 0 0] 76)).alloc (.cells #[.bool v0, .bool v1, .slice none 0 0] 76)).heap.size := by simp only [World.size_alloc]; omega
  go_enter Try.func51, Try.ntmps51
  go_wp2_with fail
  generalize (((w.alloc (.cells #[.bool v0, .bool v1, v2] 73)).alloc (.cells #[.bool false, .bool false, .slice none 0 0] 76)).alloc (.cells #[.bool v0, .bool v1, .slice none 0 0] 76)) = W at *
  refine (q2.out _ hb).mono ?_
  rintro e w1 ⟨u2, rfl, g2, hb1⟩
  replace k0 := (hb1.block _ (by omega)).trans k0
  replace k1 := (hb1.block _ (by omega)).trans k1
  replace k2 := (hb1.block _ (by omega)).trans k2
  have hz1 := hb1.size
  try simp only [World.size_setCell] at hz1
  replace g2 := g2.more (lo' := w.heap.size + 1 + 1 + 1) (hi' := w1.heap.size) hz (Nat.le_refl _)
  obtain ⟨A2, n2, c2, rfl⟩ := g2.shape
  replace hb := hb.trans (hb1.mono hb.size)
  replace hz := Nat.lt_of_lt_of_le hz hb1.size
  clear hz1 hb1
  have a0 : w1.cell? ⟨w.heap.size, 0, none⟩ = some (.bool v0) := (cell_of_row _ _ 0 _ _ (0, 0) k0).trans rfl
  have b0 : w1.cell? ⟨w.heap.size + 1 + 1, 0, none⟩ = some (.bool v0) := (cell_of_row _ _ 0 _ _ (0, 0) k2).trans rfl
  have f0 := frozen_of_row _ _ 0 _ _ k2
  have r0 : w1.cell? ⟨w.heap.size + 1, 0, none⟩ = some (.bool false) := (cell_of_row _ _ 0 _ _ (0, 0) k1).trans rfl
  have s0 := frozen_of_row _ _ 0 _ _ k1
  have a1 : w1.cell? ⟨w.heap.size, 1, none⟩ = some (.bool v1) := (cell_of_row _ _ 1 _ _ (0, 0) k0).trans rfl
  have b1 : w1.cell? ⟨w.heap.size + 1 + 1, 1, none⟩ = some (.bool v1) := (cell_of_row _ _ 1 _ _ (0, 0) k2).trans rfl
  have f1 := frozen_of_row _ _ 1 _ _ k2
  have r1 : w1.cell? ⟨w.heap.size + 1, 1, none⟩ = some (.bool false) := (cell_of_row _ _ 1 _ _ (0, 0) k1).trans rfl
  have s1 := frozen_of_row _ _ 1 _ _ k1
  have a2 : w1.cell? ⟨w.heap.size, 2, none⟩ = some (v2) := (cell_of_row _ _ 2 _ _ (0, 0) k0).trans rfl
  have b2 : w1.cell? ⟨w.heap.size + 1 + 1, 2, none⟩ = some (.slice none 0 0) := (cell_of_row _ _ 2 _ _ (0, 0) k2).trans rfl
  have f2 := frozen_of_row _ _ 2 _ _ k2
  have r2 : w1.cell? ⟨w.heap.size + 1, 2, none⟩ = some (.slice none 0 0) := (cell_of_row _ _ 2 _ _ (0, 0) k1).trans rfl
  have s2 := frozen_of_row _ _ 2 _ _ k1
  go_wp2_with fail
  replace k0 : (w1.setCell ⟨w.heap.size + 1 + 1, 2, none⟩ (.slice A2 n2 c2)).heap[w.heap.size]? = _ := (Below.heap_setCell _ _ _ _ (by show w.heap.size ≠ w.heap.size + 1 + 1; omega)).trans k0
  replace k1 : (w1.setCell ⟨w.heap.size + 1 + 1, 2, none⟩ (.slice A2 n2 c2)).heap[w.heap.size + 1]? = _ := (Below.heap_setCell _ _ _ _ (by show w.heap.size + 1 ≠ w.heap.size + 1 + 1; omega)).trans k1
  replace k2 : (w1.setCell ⟨w.heap.size + 1 + 1, 2, none⟩ (.slice A2 n2 c2)).heap[w.heap.size + 1 + 1]? = some (.cells #[.bool v0, .bool v1, .slice A2 n2 c2] 76 (0, 0)) := heap_setCell_same _ _ _ _ _ _ k2
  replace hb : Below w.heap.size w (w1.setCell ⟨w.heap.size + 1 + 1, 2, none⟩ (.slice A2 n2 c2)) := hb.setCell (by show w.heap.size ≤ w.heap.size + 1 + 1; omega) _
  replace hz : w.heap.size + 1 + 1 < (w1.setCell ⟨w.heap.size + 1 + 1, 2, none⟩ (.slice A2 n2 c2)).heap.size := by rw [World.size_setCell]; exact hz
  replace g2 := g2.only ((Only.refl (w.heap.size + 1 + 1) (w.heap.size + 1 + 1 + 1) w1).setCell (p := ⟨w.heap.size + 1 + 1, 2, none⟩) (Nat.le_refl _) (Nat.lt_succ_self _) (.slice A2 n2 c2)) (.inr (by omega))
  have hbF : Below w.heap.size w ((((w1.setCell ⟨w.heap.size + 1 + 1, 2, none⟩ (.slice A2 n2 c2)).setCell ⟨w.heap.size + 1, 0, none⟩ (.bool v0)).setCell ⟨w.heap.size + 1, 1, none⟩ (.bool v1)).setCell ⟨w.heap.size + 1, 2, none⟩ (.slice A2 n2 c2)) := (((hb.setCell (by show w.heap.size ≤ w.heap.size + 1; omega) _).setCell (by show w.heap.size ≤ w.heap.size + 1; omega) _).setCell (by show w.heap.size ≤ w.heap.size + 1; omega) _)
  have hoF : Only (w.heap.size + 1) (w.heap.size + 1 + 1) (w1.setCell ⟨w.heap.size + 1 + 1, 2, none⟩ (.slice A2 n2 c2)) ((((w1.setCell ⟨w.heap.size + 1 + 1, 2, none⟩ (.slice A2 n2 c2)).setCell ⟨w.heap.size + 1, 0, none⟩ (.bool v0)).setCell ⟨w.heap.size + 1, 1, none⟩ (.bool v1)).setCell ⟨w.heap.size + 1, 2, none⟩ (.slice A2 n2 c2)) := ((((Only.refl (w.heap.size + 1) (w.heap.size + 1 + 1) (w1.setCell ⟨w.heap.size + 1 + 1, 2, none⟩ (.slice A2 n2 c2))).setCell (p := ⟨w.heap.size + 1, 0, none⟩) (Nat.le_refl _) (Nat.lt_succ_self _) (.bool v0)).setCell (p := ⟨w.heap.size + 1, 1, none⟩) (Nat.le_refl _) (Nat.lt_succ_self _) (.bool v1)).setCell (p := ⟨w.heap.size + 1, 2, none⟩) (Nat.le_refl _) (Nat.lt_succ_self _) (.slice A2 n2 c2))
  replace g2 := (g2.only hoF (.inr (by omega))).more (lo' := w.heap.size) (hi' := ((((w1.setCell ⟨w.heap.size + 1 + 1, 2, none⟩ (.slice A2 n2 c2)).setCell ⟨w.heap.size + 1, 0, none⟩ (.bool v0)).setCell ⟨w.heap.size + 1, 1, none⟩ (.bool v1)).setCell ⟨w.heap.size + 1, 2, none⟩ (.slice A2 n2 c2)).heap.size) (by omega) (by simp only [World.size_setCell]; exact Nat.le_refl _)
  have kF : ((((w1.setCell ⟨w.heap.size + 1 + 1, 2, none⟩ (.slice A2 n2 c2)).setCell ⟨w.heap.size + 1, 0, none⟩ (.bool v0)).setCell ⟨w.heap.size + 1, 1, none⟩ (.bool v1)).setCell ⟨w.heap.size + 1, 2, none⟩ (.slice A2 n2 c2)).heap[w.heap.size + 1]? = some (.cells #[.bool v0, .bool v1, .slice A2 n2 c2] 76 (0, 0)) := (heap_setCell_same _ _ _ _ _ _ (heap_setCell_same _ _ _ _ _ _ (heap_setCell_same _ _ _ _ _ _ k1)))
  clear a0 b0 f0 r0 s0 a1 b1 f1 r1 s1 a2 b2 f2 r2 s2
  have rF0 : ((((w1.setCell ⟨w.heap.size + 1 + 1, 2, none⟩ (.slice A2 n2 c2)).setCell ⟨w.heap.size + 1, 0, none⟩ (.bool v0)).setCell ⟨w.heap.size + 1, 1, none⟩ (.bool v1)).setCell ⟨w.heap.size + 1, 2, none⟩ (.slice A2 n2 c2)).cell? ⟨w.heap.size + 1, 0, none⟩ = some (.bool v0) := (cell_of_row _ _ 0 _ _ (0, 0) kF).trans rfl
  have rF1 : ((((w1.setCell ⟨w.heap.size + 1 + 1, 2, none⟩ (.slice A2 n2 c2)).setCell ⟨w.heap.size + 1, 0, none⟩ (.bool v0)).setCell ⟨w.heap.size + 1, 1, none⟩ (.bool v1)).setCell ⟨w.heap.size + 1, 2, none⟩ (.slice A2 n2 c2)).cell? ⟨w.heap.size + 1, 1, none⟩ = some (.bool v1) := (cell_of_row _ _ 1 _ _ (0, 0) kF).trans rfl
  have rF2 : ((((w1.setCell ⟨w.heap.size + 1 + 1, 2, none⟩ (.slice A2 n2 c2)).setCell ⟨w.heap.size + 1, 0, none⟩ (.bool v0)).setCell ⟨w.heap.size + 1, 1, none⟩ (.bool v1)).setCell ⟨w.heap.size + 1, 2, none⟩ (.slice A2 n2 c2)).cell? ⟨w.heap.size + 1, 2, none⟩ = some (.slice A2 n2 c2) := (cell_of_row _ _ 2 _ _ (0, 0) kF).trans rfl
  clear hoF hb hz k0 k1 k2 kF q2
  generalize ((((w1.setCell ⟨w.heap.size + 1 + 1, 2, none⟩ (.slice A2 n2 c2)).setCell ⟨w.heap.size + 1, 0, none⟩ (.bool v0)).setCell ⟨w.heap.size + 1, 1, none⟩ (.bool v1)).setCell ⟨w.heap.size + 1, 2, none⟩ (.slice A2 n2 c2)) = WF at *
  refine bodyPost_ret (by simp [results, Try.results51, go_sem, rF0, rF1, rF2]; try rfl) rfl ?_
  exact ⟨(v0, v1, .slice A2 n2 c2), rfl, ⟨rfl, rfl, g2⟩, hbF⟩


set_option maxHeartbeats 1600000 in
set_option maxRecDepth 100000 in
theorem eqEx_a {x y : CEx} {d e : DEx} {w : World} {lo hi lo' hi' : Nat} (h : ReadEx w lo hi x d) (g : ReadEx w lo' hi' y e) (hs : totEx d ≤ 1048576) (gs : totEx e ≤ 1048576) :
    Calls Try.prog 54 #[.agg #[.bool x.1, .bool x.2.1, x.2.2], .agg #[.bool y.1, .bool y.2.1, y.2.2]] w fun r w' => r = .returned (.bool (decide (d = e))) ∧ Below w.heap.size w w' := by
  obtain ⟨x0, x1, x2⟩ := x
  obtain ⟨y0, y1, y2⟩ := y
  obtain ⟨d0, d1, d2⟩ := d
  obtain ⟨e0, e1, e2⟩ := e
  obtain ⟨h0, h1, h2⟩ := h
  obtain ⟨g0, g1, g2⟩ := g
  dsimp only at *
  subst h0 g0
  subst h1 g1
  simp only [totEx] at hs gs
  have k0 : ((w.alloc (.cells #[.bool x0, .bool x1, x2] 76)).alloc (.cells #[.bool y0, .bool y1, y2] 76)).heap[w.heap.size]? = some (.cells #[.bool x0, .bool x1, x2] 76 (0, 0)) := (Below.heap_alloc _ _ _ (by simp only [World.size_alloc]; omega)).trans (heap_alloc_new w _)
  have k1 : ((w.alloc (.cells #[.bool x0, .bool x1, x2] 76)).alloc (.cells #[.bool y0, .bool y1, y2] 76)).heap[w.heap.size + 1]? = some (.cells #[.bool y0, .bool y1, y2] 76 (0, 0)) := by have h := heap_alloc_new (w.alloc (.cells #[.bool x0, .bool x1, x2] 76)) (.cells #[.bool y0, .bool y1, y2] 76); rw [World.size_alloc] at h; exact h
  have hb : Below w.heap.size w ((w.alloc (.cells #[.bool x0, .bool x1, x2] 76)).alloc (.cells #[.bool y0, .bool y1, y2] 76)) := ((Below.refl _ _).alloc (Nat.le_refl _) _).alloc (by simp only [World.size_alloc]; omega) _
  have hz : w.heap.size + 1 < ((w.alloc (.cells #[.bool x0, .bool x1, x2] 76)).alloc (.cells #[.bool y0, .bool y1, y2] 76)).heap.size := by simp only [World.size_alloc]; omega
  have q2 := hide (fun W (hW : Below w.heap.size w W) => eqInt64S_a (h2.below hW (.inr (Nat.le_refl _))) (g2.below hW (.inr (Nat.le_refl _))) (by omega) (by omega))
  clear h2 g2
  by_cases he : (x0, x1, d2) = (y0, y1, e2)
  · have hE := hide he
    simp only [Prod.mk.injEq] at he
    obtain ⟨z0, z1, z2⟩ := he
    subst z0
    subst z1
    skip
    go_enter Try.func54, Try.ntmps54
    go_wp2_with fail
    try generalize ((w.alloc (.cells #[.bool x0, .bool x1, x2] 76)).alloc (.cells #[.bool x0, .bool x1, y2] 76)) = W at *
    have qq := q2.out _ hb
    rw [decide_eq_true z2] at qq
    replace qq := hide qq
    refine qq.out.mono ?_
    rintro r w1 ⟨rfl, hb1⟩
    clear qq
    replace k0 := (hb1.block _ (by omega)).trans k0
    replace k1 := (hb1.block _ (by omega)).trans k1
    replace hb := hb.trans (hb1.mono hb.size)
    replace hz := Nat.lt_of_lt_of_le hz hb1.size
    clear hb1
    have a0 : w1.cell? ⟨w.heap.size, 0, none⟩ = some (.bool x0) := (cell_of_row _ _ 0 _ _ (0, 0) k0).trans rfl
    have b0 : w1.cell? ⟨w.heap.size + 1, 0, none⟩ = some (.bool x0) := (cell_of_row _ _ 0 _ _ (0, 0) k1).trans rfl
    have a1 : w1.cell? ⟨w.heap.size, 1, none⟩ = some (.bool x1) := (cell_of_row _ _ 1 _ _ (0, 0) k0).trans rfl
    have b1 : w1.cell? ⟨w.heap.size + 1, 1, none⟩ = some (.bool x1) := (cell_of_row _ _ 1 _ _ (0, 0) k1).trans rfl
    have a2 : w1.cell? ⟨w.heap.size, 2, none⟩ = some (x2) := (cell_of_row _ _ 2 _ _ (0, 0) k0).trans rfl
    have b2 : w1.cell? ⟨w.heap.size + 1, 2, none⟩ = some (y2) := (cell_of_row _ _ 2 _ _ (0, 0) k1).trans rfl
    go_wp2_with fail
    go_ret
    exact ⟨by rw [decide_eq_true hE.out]; rfl, hb⟩
  · have hN : Hid (¬ ((x0, x1, d2) = (y0, y1, e2))) := he
    by_cases c0 : x0 = y0
    · subst c0
      have z0 : x0 = x0 := rfl
      replace z0 := hide z0
      by_cases c1 : x1 = y1
      · subst c1
        have z1 : x1 = x1 := rfl
        replace z1 := hide z1
        by_cases c2 : d2 = e2
        · have z2 := hide c2
          clear c2
          exact absurd (Prod.ext z0.out (Prod.ext z1.out (z2.out))) hN.out
        · replace c2 := hide c2
          skip
          go_enter Try.func54, Try.ntmps54
          go_wp2_with fail
          try generalize ((w.alloc (.cells #[.bool x0, .bool x1, x2] 76)).alloc (.cells #[.bool x0, .bool x1, y2] 76)) = W at *
          have qq := q2.out _ hb
          rw [decide_eq_false c2.out] at qq
          replace qq := hide qq
          refine qq.out.mono ?_
          rintro r w1 ⟨rfl, hb1⟩
          clear qq
          replace k0 := (hb1.block _ (by omega)).trans k0
          replace k1 := (hb1.block _ (by omega)).trans k1
          replace hb := hb.trans (hb1.mono hb.size)
          replace hz := Nat.lt_of_lt_of_le hz hb1.size
          clear hb1
          have a0 : w1.cell? ⟨w.heap.size, 0, none⟩ = some (.bool x0) := (cell_of_row _ _ 0 _ _ (0, 0) k0).trans rfl
          have b0 : w1.cell? ⟨w.heap.size + 1, 0, none⟩ = some (.bool x0) := (cell_of_row _ _ 0 _ _ (0, 0) k1).trans rfl
          have a1 : w1.cell? ⟨w.heap.size, 1, none⟩ = some (.bool x1) := (cell_of_row _ _ 1 _ _ (0, 0) k0).trans rfl
          have b1 : w1.cell? ⟨w.heap.size + 1, 1, none⟩ = some (.bool x1) := (cell_of_row _ _ 1 _ _ (0, 0) k1).trans rfl
          have a2 : w1.cell? ⟨w.heap.size, 2, none⟩ = some (x2) := (cell_of_row _ _ 2 _ _ (0, 0) k0).trans rfl
          have b2 : w1.cell? ⟨w.heap.size + 1, 2, none⟩ = some (y2) := (cell_of_row _ _ 2 _ _ (0, 0) k1).trans rfl
          go_wp2_with fail
          go_ret
          exact ⟨by first | (rw [decide_eq_false hN.out]; rfl) | rfl, hb⟩
      · have cc : (x1 == y1) = false := by rw [beq_eq_false_iff_ne]; exact c1
        clear c1
        clear q2
        go_enter Try.func54, Try.ntmps54
        go_wp2_with fail
        try generalize ((w.alloc (.cells #[.bool x0, .bool x1, x2] 76)).alloc (.cells #[.bool x0, .bool y1, y2] 76)) = W at *
        go_ret
        exact ⟨by first | (rw [decide_eq_false hN.out]; rfl) | rfl, hb⟩
    · have cc : (x0 == y0) = false := by rw [beq_eq_false_iff_ne]; exact c0
      clear c0
      clear q2
      go_enter Try.func54, Try.ntmps54
      go_wp2_with fail
      try generalize ((w.alloc (.cells #[.bool x0, .bool x1, x2] 76)).alloc (.cells #[.bool y0, .bool y1, y2] 76)) = W at *
      go_ret
      exact ⟨by first | (rw [decide_eq_false hN.out]; rfl) | rfl, hb⟩


theorem szEquation_b (a b : Bool) (A : Option Addr) (n c : Nat) (left : Int) (w : World) (hn : n ≤ maxLen) (h0 : 0 ≤ left) (h1 : left ≤ 1048576) :
    Calls Try.prog 48 #[.agg #[.bool a, .bool b, .slice A n c], .int .i64 left] w fun e w' => e = .returned (.int .i64 (szLeft left n)) ∧ Below w.heap.size w w' := by
  have hb0 : Below w.heap.size w (w.alloc (.cells #[.bool a, .bool b, .slice A n c] 73)) := (Below.refl _ _).alloc (Nat.le_refl _) _
  have q1 := szInt64S_calls A n c left (w.alloc (.cells #[.bool a, .bool b, .slice A n c] 73)) hn h0 h1
  by_cases b1 : left < n
  · rw [szLeft_big b1] at q1
    replace q1 := hide q1
    go_enter Try.func48, Try.ntmps48
    go_wp2_with (first | (go_at_call 78; (with_reducible refine q1.out.mono ?_); rintro e w' ⟨rfl, rfl⟩))
    go_ret
    exact ⟨by rw [szLeft_big (by omega)]; rfl, hb0⟩
  · rw [szLeft_fits b1] at q1
    replace q1 := hide q1
    go_enter Try.func48, Try.ntmps48
    go_wp2_with (first | (go_at_call 78; (with_reducible refine q1.out.mono ?_); rintro e w' ⟨rfl, rfl⟩))
    go_ret
    exact ⟨by rw [szLeft_fits (by omega)]; rfl, hb0⟩

theorem szEquationS_calls (A : Option Addr) (n c : Nat) (R : List (CE × List Int)) (left : Int) (w : World) (lo hi : Nat) (h : RowsE maxLen w lo hi A n R) (hn : n ≤ maxLen) (h0 : 0 ≤ left) (h1 : left ≤ 1048576) :
    Calls Try.prog 19 #[.slice A n c, .int .i64 left] w fun e w' => e = .returned (.int .i64 (szLeft left (n + preG hdE R n))) ∧ Below w.heap.size w w' := by
  have hn' : n ≤ 9223372036854775807 := by unfold maxLen at hn; omega
  by_cases hb : left < n
  · clear h
    go_enter Try.func19, Try.ntmps19
    go_wp2
    go_ret
    exact ⟨by rw [szLeft_big (by omega)]; rfl, Below.refl _ _⟩
  · replace h := hide h
    go_enter Try.func19, Try.ntmps19
    go_wp2
    go_loopw [1, 5] (fun s i wr => ∃ k : Nat, k ≤ n ∧ i = .int .i64 k ∧ s = .int .i64 (left - ((n : Int) + (preG hdE R k : Int))) ∧ ((n + preG hdE R k : Nat) : Int) ≤ left ∧ Below w.heap.size w wr) (fun _ i _ => n - (intOf i).toNat)
    case atStart => exact ⟨0, Nat.zero_le _, rfl, by rw [preG_zero]; go_num, by rw [preG_zero]; omega, Below.refl _ _⟩
    case round =>
      obtain ⟨k, hk, rfl, rfl, hle, hbl⟩ := hrel
      by_cases hlt : k < n
      · obtain ⟨b, off, x, y, Ah, nh, ch, s, rfl, g1, g2, g3, hx, c0, c1, c2, -, -, hs, hnh⟩ := (h.out.below hbl (.inr (Nat.le_refl _))).atE hlt
        have hpre : preG hdE R (k + 1) = preG hdE R k + nh := preG_succ (hd := hdE) hx
        have hmono := preG_mono hdE R (show k + 1 ≤ n by omega)
        have hq := szEquation_b x y Ah nh ch (left - ((n : Int) + (preG hdE R k : Int))) wr hnh (by omega) (by omega)
        clear h hs hx
        generalize hpk : preG hdE R k = pk at *
        rw [hpre] at hmono
        by_cases hbig : left - ((n : Int) + (pk : Int)) < nh
        · rw [szLeft_big hbig] at hq
          replace hq := hide hq
          go_wp2_with (go_at_call 48; (with_reducible refine hq.out.mono ?_); rintro e w1 ⟨rfl, hb1⟩)
          go_ret
          exact ⟨by rw [szLeft_big (by omega)]; rfl, hbl.trans (hb1.mono hbl.size)⟩
        · rw [szLeft_fits hbig] at hq
          replace hq := hide hq
          go_wp2_with (go_at_call 48; (with_reducible refine hq.out.mono ?_); rintro e w1 ⟨rfl, hb1⟩)
          go_roundw
          case rel => exact ⟨k + 1, by omega, by go_num, by rw [hpre]; go_num, by omega, hbl.trans (hb1.mono hbl.size)⟩
          case measure => simp [intOf]; omega
      · have hkn : k = n := by omega
        subst hkn
        clear h
        go_wp2
        go_ret
        exact ⟨by rw [szLeft_fits (by omega)]; exact ret_i (by omega), hbl⟩

theorem info_impE : (Try.prog.info? 76).map (fun i => (i.zero, i.size, i.bytes)) = some (some (.agg #[.bool false, .bool false, .slice none 0 0]), 3, 32) := by kernel_rfl

set_option maxHeartbeats 1600000 in
set_option maxRecDepth 100000 in
theorem toEquationS_calls (A : Option Addr) (n c : Nat) (R : List (CE × List Int)) (w : World) (lo hi : Nat) (h : RowsE 1048576 w lo hi A n R) (hn : n ≤ 1048576) :
    Calls Try.prog 21 #[.slice A n c] w fun e w' => ∃ A', e = .returned (.slice A' n n) ∧ Below w.heap.size w w' ∧ ∃ R', NestE w' w.heap.size w'.heap.size A' n R' ∧ R'.map dE = R.map dE := by
  obtain ⟨i0, hi0, hz0, hz1, hz2⟩ := info_parts info_impE
  have hmk := fun W => make_row (P := Try.prog) 39 76 i0 _ _ n Try.underlying39 hi0 hz0 hz1 (by rw [hz2]; omega) (by omega) W
  clear hi0 hz0 hz1 hz2
  have hlen := hide h.len
  replace h := hide h
  go_enter Try.func21, Try.ntmps21
  go_wp2
  go_loopw [4] (fun i wr => ∃ k : Nat, k ≤ n ∧ i = .int .i64 k ∧ Below w.heap.size w wr ∧ ∃ R', NestF hdE 3 gE 1 iv wr w.heap.size 76 n k R' ∧ R'.map dE = (R.map dE).take k) (fun i _ => n - (intOf i).toNat)
  case atStart => exact ⟨0, Nat.zero_le _, rfl, (Below.refl _ _).alloc (Nat.le_refl _) _, [], NestF.start _ _ _ _ (by simp [madeCells]), rfl⟩
  case round =>
    obtain ⟨k, hk, rfl, hb, R', hf, he⟩ := hrel
    clear hmk
    replace hf := hide hf
    replace he := hide he
    by_cases hlt : k < n
    · obtain ⟨b, off, x, y, Ah, nh, ch, s, rfl, g1, g2, g3, hx, c0, c1, c2, -, -, hs, hnh⟩ := (h.out.below hb (.inr (Nat.le_refl _))).atE hlt
      have hx2 := hide (show (R.map dE)[k]? = some (x, y, s) by rw [List.getElem?_map, hx]; rfl)
      have hsl := hide hs.len
      have hq := toEx_a (x := (x, y, .slice Ah nh ch)) (d := (x, y, s)) ⟨rfl, rfl, Ah, nh, ch, rfl, by unfold maxLen; omega, hs⟩ (by unfold totEx; show s.length ≤ _; rw [hsl.out]; exact hnh)
      dsimp only at hq
      replace hq := hide hq
      have hlen2 := hide hf.out.len
      have hzB := hf.out.fill.lt
      clear hx hs h
      go_wp2_with (first | (go_at_call 51; (with_reducible refine hq.out.mono ?_); rintro e w1 ⟨⟨y0, y1, y2⟩, rfl, ⟨e0, e1, A2, n2, c2', e2, hn2, hs2⟩, hb1⟩; dsimp only at e0 e1 e2; subst e0 e1 e2; have hf1 := hf.out.fill.keep (hb1.block _ hzB); obtain ⟨p0, q0⟩ := hf1.cell (i := k * 3) (by omega); obtain ⟨p1, q1⟩ := hf1.cell (i := k * 3 + 1) (by omega); obtain ⟨p2, q2⟩ := hf1.cell (i := k * 3 + 2) (by omega); have z0 := hf1.frozen (k * 3); have z1 := hf1.frozen (k * 3 + 1); have z2 := hf1.frozen (k * 3 + 2); replace hf1 := hide hf1; replace hs2 := hide hs2))
      go_roundw
      case rel =>
        have hn3 : n2 ≤ 1048576 := by have q1 := hs2.out.len; have q2 := hsl.out; omega
        have hpush := hf.out.push (x := (y0, y1, A2, n2, c2')) (s := s) hb1 hs2.out hn3 (putCells_only w.heap.size (gE (y0, y1, A2, n2, c2')) w1 (k * 3)) ((hf1.out.of_take ?ht1).putN hlt (fun _ => rfl) (x := (y0, y1, A2, n2, c2')) ?ht2)
        · simp only [putCells, gE, Nat.add_assoc, Nat.reduceAdd] at hpush
          refine ⟨k + 1, by omega, by go_num, ?_, R' ++ [((y0, y1, A2, n2, c2'), s)], hpush, ?_⟩
          · exact (((hb.trans (hb1.mono hb.size)).setCell (Nat.le_refl _) _).setCell (Nat.le_refl _) _).setCell (Nat.le_refl _) _
          · rw [List.map_append, he.out, List.take_add_one, hx2.out]; rfl
        case ht1 => rw [List.take_append_of_le_length (by rw [List.length_map, hlen2.out]; exact Nat.le_refl _)]
        case ht2 => rw [List.getElem?_append_right (by rw [List.length_map, hlen2.out]; exact Nat.le_refl _), List.length_map, hlen2.out]; simp
      case measure => simp [intOf]; omega
    · have : k = n := by omega
      subst this
      clear h
      go_wp2
      go_ret
      exact ⟨_, rfl, hb, R', hf.out.done, by rw [he.out, List.take_of_length_le (by rw [List.length_map, hlen.out]; exact Nat.le_refl _)]⟩

set_option maxHeartbeats 1600000 in
set_option maxRecDepth 100000 in
theorem eqEquationS_calls (A B : Option Addr) (n m c d : Nat) (R S : List (CE × List Int)) (w : World) (lo hi lo' hi' : Nat) (h : RowsE 1048576 w lo hi A n R) (g : RowsE 1048576 w lo' hi' B m S) (hn : n ≤ 1048576) (hm : m ≤ 1048576) :
    Calls Try.prog 24 #[.slice A n c, .slice B m d] w fun e w' => e = .returned (.bool (decide (R.map dE = S.map dE))) ∧ Below w.heap.size w w' := by
  have hl := hide h.len
  have hr := hide g.len
  by_cases hnm : n = m
  · subst hnm
    replace h := hide h
    replace g := hide g
    go_enter Try.func24, Try.ntmps24
    go_wp2
    go_loopw [5] (fun i wr => ∃ k : Nat, k ≤ n ∧ i = .int .i64 k ∧ Below w.heap.size w wr ∧ (R.map dE).take k = (S.map dE).take k) (fun i _ => n - (intOf i).toNat)
    case atStart => exact ⟨0, Nat.zero_le _, rfl, (Below.refl _ _), rfl⟩
    case round =>
      obtain ⟨k, hk, rfl, hb, he⟩ := hrel
      replace he := hide he
      by_cases hlt : k < n
      · obtain ⟨b, off, x, y, Ah, nh, ch, s, rfl, g1, g2, g3, hx, c0, c1, c2, -, -, hs, hnh⟩ := (h.out.below hb (.inr (Nat.le_refl _))).atE hlt
        obtain ⟨b', off', x', y', Ah', nh', ch', s', rfl, g1', g2', g3', hy, d0, d1, d2, -, -, hs', hnh'⟩ := (g.out.below hb (.inr (Nat.le_refl _))).atE hlt
        have hx2 := hide (show (R.map dE)[k]? = some (x, y, s) by rw [List.getElem?_map, hx]; rfl)
        have hy2 := hide (show (S.map dE)[k]? = some (x', y', s') by rw [List.getElem?_map, hy]; rfl)
        have hq := eqEx_a (x := (x, y, .slice Ah nh ch)) (y := (x', y', .slice Ah' nh' ch')) (d := (x, y, s)) (e := (x', y', s')) (w := wr.drew) ⟨rfl, rfl, Ah, nh, ch, rfl, by unfold maxLen; omega, hs.drewN 1⟩ ⟨rfl, rfl, Ah', nh', ch', rfl, by unfold maxLen; omega, hs'.drewN 1⟩ (by unfold totEx; show s.length ≤ _; rw [hs.len]; exact hnh) (by unfold totEx; show s'.length ≤ _; rw [hs'.len]; exact hnh')
        dsimp only at hq
        clear h g hx hy hs hs'
        have hk0 : (0 : Int) ≤ (k : Int) := by omega
        have hk1 : (k : Int) < (n : Int) := by omega
        by_cases hxy : (x, y, s) = (x', y', s')
        · rw [decide_eq_true hxy] at hq
          have hxy2 := hide hxy
          clear hxy
          replace hq := hide hq
          go_wp2
          go_still_tail 8, (by kernel_rfl)
          change wpList _ _ _ _ _ wr.drew
          go_wp2_with (go_at_call 54; (with_reducible refine hq.out.mono ?_); rintro e w1 ⟨rfl, hb1⟩)
          go_roundw
          case rel => exact ⟨k + 1, by omega, by go_num, hb.drew.trans (hb1.mono hb.size), take_step he.out hx2.out hy2.out hxy2.out⟩
          case measure => simp [intOf]; omega
        · rw [decide_eq_false hxy] at hq
          replace hq := hide hq
          have hne := hide (take_stop hx2.out hy2.out hxy)
          clear hxy
          go_wp2
          go_still_tail 8, (by kernel_rfl)
          change wpList _ _ _ _ _ wr.drew
          go_wp2_with (go_at_call 54; (with_reducible refine hq.out.mono ?_); rintro e w1 ⟨rfl, hb1⟩)
          go_ret
          exact ⟨by rw [decide_eq_false hne.out]; rfl, hb.drew.trans (hb1.mono hb.size)⟩
      · have hkn : k = n := by omega
        subst hkn
        clear h g
        go_wp2
        go_ret
        exact ⟨by rw [take_all he.out (by rw [List.length_map]; exact hl.out) (by rw [List.length_map]; exact hr.out)]; simp, hb⟩
  · have hne : Hid (R.map dE ≠ S.map dE) := fun e => hnm (by rw [← hl.out, ← hr.out]; have := congrArg List.length e; simpa using this)
    have hb0 : ((n : Int) != (m : Int)) = true := by rw [bne_iff_ne]; omega
    clear h g
    go_enter Try.func24, Try.ntmps24
    go_wp2
    go_ret
    exact ⟨by rw [decide_eq_false hne.out]; rfl, Below.refl _ _⟩

set_option maxHeartbeats 1600000 in
set_option maxRecDepth 100000 in
theorem markEquationS_calls (A : Option Addr) (n c : Nat) (R : List (CE × List Int)) (m : Int) (w : World) (lo hi : Nat) (h : NestE w lo hi A n R) (hn : n ≤ 1048576) (h0 : 0 ≤ m) (h1 : m + 2 * (n : Int) + (preG hdE R n : Int) ≤ 1099511627776) :
    Calls Try.prog 25 #[.slice A n c, .int .i64 m] w fun e w' => e = .returned (.int .i64 (m + 2 * (n : Int) + (preG hdE R n : Int))) ∧ Only lo hi w w' := by
  have hlR := hide h.len
  go_enter Try.func25, Try.ntmps25
  go_wp2
  go_loopw [1, 5] (fun s i wr => ∃ k : Nat, k ≤ n ∧ i = .int .i64 k ∧ s = .int .i64 (m + 2 * (k : Int) + (preG hdE R k : Int)) ∧ ∃ R', R'.map (fun r => hdE r.1) = R.map (fun r => hdE r.1) ∧ NestE wr lo hi A n R' ∧ Only lo hi w wr) (fun _ i _ => n - (intOf i).toNat)
  case atStart => exact ⟨0, Nat.zero_le _, rfl, by rw [preG_zero]; go_num, R, rfl, h, Only.refl _ _ _⟩
  case round =>
    obtain ⟨k, hk, rfl, rfl, R', hR, hs, ho⟩ := hrel
    clear h
    have hmono := preG_mono hdE R hk
    by_cases hlt : k < n
    · obtain ⟨b, off, x, y, Ah, nh, ch, s, rfl, g1, g2, g3, hx, c0, c1, c2, z0, z1, hx2, hnh⟩ := hs.all.atE hlt
      have hpre : preG hdE R (k + 1) = preG hdE R k + nh := by
        have h2 : (R.map (fun r => hdE r.1))[k]? = some (Ah, nh, ch) := by rw [← hR, List.getElem?_map, hx]; rfl
        rw [List.getElem?_map] at h2
        obtain ⟨⟨q, t⟩, hq1, hq2⟩ := Option.map_eq_some_iff.1 h2
        have := preG_succ (hd := hdE) hq1
        rw [this]
        have hq2 : hdE q = (Ah, nh, ch) := hq2
        rw [hq2]
      have hmono2 := preG_mono hdE R (show k + 1 ≤ n by omega)
      rw [hpre] at hmono2
      generalize hpk : preG hdE R k = pk at *
      have hsp : spanOf (some (⟨b, off, none⟩ : Addr), n, 0) = (b, b + 1) := spanOf_pos b off 0 (by omega)
      have htight : Sl 3 gE wr (spanOf (some (⟨b, off, none⟩ : Addr), n, 0)).1 (spanOf (some (⟨b, off, none⟩ : Addr), n, 0)).2 (some ⟨b, off, none⟩) n (R'.map (·.1)) := hs.all.outer.tight 0
      have hk1 : (R'.map (·.1))[k]? = some (x, y, Ah, nh, ch) := by rw [List.getElem?_map, hx]; rfl
      have hput1 := hs.putOuter (x' := ((m + 2 * (k : Int) + (pk : Int)) % 3 == 0, (m + 2 * (k : Int) + (pk : Int) + 1) % 3 == 0, Ah, nh, ch)) hx rfl (w' := putCells wr b (off + k * 3) [.bool ((m + 2 * (k : Int) + (pk : Int)) % 3 == 0), .bool ((m + 2 * (k : Int) + (pk : Int) + 1) % 3 == 0)]) (by rw [hsp]; exact putCells_only b _ wr _) (htight.putPre hk1 (fun _ => rfl) ((m + 2 * (k : Int) + (pk : Int)) % 3 == 0, (m + 2 * (k : Int) + (pk : Int) + 1) % 3 == 0, Ah, nh, ch) [.bool ((m + 2 * (k : Int) + (pk : Int)) % 3 == 0), .bool ((m + 2 * (k : Int) + (pk : Int) + 1) % 3 == 0)] (by simp) (fun j u hj hu => by rcases j with _ | _ | j; exact hu; exact hu; simp at hj; omega) (fun j u hj hu => by rcases j with _ | _ | _ | j; simp at hj; simp at hj; exact hu; simp [gE] at hu))
      obtain ⟨hp1, ho1⟩ := hput1
      have hkl' : k < R'.length := (List.getElem?_eq_some_iff.1 hx).1
      have hx3 := List.getElem?_set_self (l := R') (a := (((m + 2 * (k : Int) + (pk : Int)) % 3 == 0, (m + 2 * (k : Int) + (pk : Int) + 1) % 3 == 0, Ah, nh, ch), s)) hkl'
      have hin := (hp1.all.rows _ (List.mem_of_getElem? hx3)).1
      have hc2' := ((hp1.all.outer).2 (by omega))
      have hcell : (putCells wr b (off + k * 3) [.bool ((m + 2 * (k : Int) + (pk : Int)) % 3 == 0), .bool ((m + 2 * (k : Int) + (pk : Int) + 1) % 3 == 0)]).cell? ⟨b, off + k * 3 + 2, none⟩ = some (.slice Ah nh ch) := by
        have h9 := hp1.all.atE hlt
        obtain ⟨b', off', x', y', Ah', nh', ch', s', e, -, -, -, hx', -, -, cc, -⟩ := h9
        cases e
        rw [hx3] at hx'
        cases hx'
        exact cc
      have hq := hide (markInt64S_calls Ah nh ch s (m + 2 * (k : Int) + (pk : Int) + 1 + 1) _ _ _ (hin.tight ch) hnh (by omega) (by omega))
      clear hin hc2' hx2
      simp only [putCells] at hq hcell hp1 ho1
      replace hx := hide hx
      replace hx3 := hide hx3
      replace hs := hide hs
      replace hR := hide hR
      replace hp1 := hide hp1
      clear htight hk1 hsp
      go_wp2_with (go_at_call 15; (with_reducible refine hq.out.mono ?_); rintro e w1 ⟨rfl, hs1, hom⟩)
      obtain ⟨hput, ho2⟩ := hp1.out.put hx3.out hom hs1
      go_roundw
      case rel =>
        refine ⟨k + 1, by omega, by go_num, by rw [hpre]; go_num, _, ?_, hput, (ho.trans ho1).trans ho2⟩
        rw [List.set_set]
        have := handles_setG (hd := hdE) (x' := ((m + 2 * (k : Int) + (pk : Int)) % 3 == 0, (m + 2 * (k : Int) + (pk : Int) + 1) % 3 == 0, Ah, nh, ch)) (s' := markI (m + 2 * (k : Int) + (pk : Int) + 1 + 1) nh s) hx.out rfl
        exact this.trans hR.out
      case measure => simp [intOf]; omega
    · have hkn : k = n := by omega
      subst hkn
      go_wp2
      go_ret
      exact ⟨rfl, ho⟩

theorem szEquationS_u {v : Value} {d : DE} {left : Int} {w : World} {lo hi : Nat} (h : ArgE w lo hi v d) (h0 : 0 ≤ left) (h1 : left ≤ 1048576) :
    Calls Try.prog 19 #[v, .int .i64 left] w fun e w' => e = .returned (.int .i64 (szLeft left (totE d))) ∧ Below w.heap.size w w' := by
  obtain ⟨A, n, c, R, rfl, hn, hR, rfl⟩ := h
  rw [← totE_of hR]
  exact szEquationS_calls A n c R left w lo hi hR hn h0 h1
theorem toEquationS_u {v : Value} {d : DE} {w : World} {lo hi : Nat} (h : ArgE w lo hi v d) (ht : totE d ≤ 1048576) :
    Calls Try.prog 21 #[v] w fun e w' => ∃ v', e = .returned v' ∧ FreshE w' w.heap.size w'.heap.size v' d ∧ Below w.heap.size w w' := by
  obtain ⟨A, n, c, R, rfl, hn, hR, rfl⟩ := h
  have htot := totE_of hR
  refine (toEquationS_calls A n c R w lo hi (hR.upto (preG_all hR.len (m := 1048576) (by omega))) (by omega)).mono ?_
  rintro e w' ⟨A', rfl, hb, R', hN, hR'⟩
  exact ⟨_, rfl, ⟨A', n, R', rfl, hN, hR', ht⟩, hb⟩
theorem eqEquationS_u {v u : Value} {d e : DE} {w : World} {lo hi lo' hi' : Nat} (h : FreshE w lo hi v d) (g : FreshE w lo' hi' u e) :
    Calls Try.prog 24 #[v, u] w fun r w' => r = .returned (.bool (decide (d = e))) ∧ Below w.heap.size w w' := by
  obtain ⟨A, n, R, rfl, h1, rfl, h2⟩ := h
  obtain ⟨B, m, S, rfl, g1, rfl, g2⟩ := g
  have t1 := totE_of h1.all
  have t2 := totE_of g1.all
  exact eqEquationS_calls A B n m n m R S w lo hi lo' hi' h1.all g1.all (by omega) (by omega)
theorem markEquationS_u {v : Value} {d : DE} {m : Int} {w : World} {lo hi : Nat} (h : FreshE w lo hi v d) (h0 : 0 ≤ m) (h1 : m ≤ 549755813888) :
    Calls Try.prog 25 #[v, .int .i64 m] w fun e w' => ∃ m', e = .returned (.int .i64 m') ∧ m ≤ m' ∧ m' ≤ m + 8388608 ∧ Only lo hi w w' := by
  obtain ⟨A, n, R, rfl, h2, rfl, h3⟩ := h
  have t1 := totE_of h2.all
  refine (markEquationS_calls A n n R m w lo hi h2 (by omega) h0 (by omega)).mono ?_
  rintro e w' ⟨rfl, ho⟩
  exact ⟨_, rfl, by omega, by omega, ho⟩

set_option maxRecDepth 100000 in
theorem open_E {H : Type} {enc : TypeId × Value → H} {w : World} {base : Nat} {spare : Nat → Bool} {held : Bool} {v : Value} {d : DataW H} {p : List MemPlace}
    (h : DataW.Trod enc Try.prog w base spare held 34 v d p) {n' c' : Nat} {A' : Option Addr} (hv : v = .slice A' n' c') (hz : ∀ b off, MemPlace.cell b off ∈ p → w.frozen? ⟨b, off, none⟩ = false) : ∃ x, ArgE w base w.heap.size v x := by
  obtain ⟨fuel, hf⟩ := h
  obtain ⟨A, n, c, l, e1, e2, e3, e4⟩ := open_flatQ (w := w) (base := base) (spare := spare) (held := held) (fun r : CE × List Int => gE r.1) (fun r => SlI w base w.heap.size (hdE r.1).1 (hdE r.1).2.1 r.2 ∧ (hdE r.1).2.1 ≤ maxLen) Try.underlying34 (by kernel_rfl) (show 0 < 3 by omega) (fun fuel cs y hy hl hz' => by
    obtain ⟨i0, b0, z0, q0, s0, u0⟩ := field1 Try.underlying73 (by kernel_rfl) (by kernel_rfl) hy 0 _ rfl
    obtain ⟨i1, b1, z1, q1, s1, u1⟩ := field1 Try.underlying73 (by kernel_rfl) (by kernel_rfl) hy 1 _ rfl
    obtain ⟨i2, b2, z2, q2, s2, u2⟩ := field1 Try.underlying73 (by kernel_rfl) (by kernel_rfl) hy 2 _ rfl
    obtain ⟨a0, f0, _⟩ := DataW.trod_bool Try.underlying4 s0
    obtain ⟨a1, f1, _⟩ := DataW.trod_bool Try.underlying4 s1
    obtain ⟨e2, A2, n2, k2, f2, f3, f4⟩ := read_I Try.underlying24 (by kernel_rfl) Try.underlying2 s2 (fun b off hp => hz' b off (u2 _ hp))
    match cs, hl with
    | [k0, k1, k2], _ =>
      simp at q0 q1 q2 f0 f1
      subst q0 q1 q2 f0 f1 f2
      exact ⟨((a0, a1, A2, n2, _), e2), rfl, f4, f3⟩) hf hz
  subst hv
  simp [Value.cells] at e1
  obtain ⟨rfl, rfl, rfl⟩ := e1
  refine ⟨l.map dE, _, _, _, l, rfl, e2, ⟨⟨by rw [List.length_map]; exact e3.1, fun hp => ?_⟩, fun r hr => e4 r hr⟩, rfl⟩
  obtain ⟨b, off, q1, q2, q3, q4, q5⟩ := e3.2 hp
  refine ⟨b, off, q1, q2, q3, q4, fun k x hx j u hu => ?_⟩
  rw [List.getElem?_map] at hx
  obtain ⟨r, hr1, rfl⟩ := Option.map_eq_some_iff.1 hx
  exact q5 k r hr1 j u hu

end Go.Proofs.Ytbnneahjjcamlaa
