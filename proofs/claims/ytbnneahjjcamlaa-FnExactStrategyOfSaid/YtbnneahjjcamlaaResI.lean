/-
  Lists of int64 as results of a law: the helpers' contracts in one shape. Conditions: none.
-/
import Derived.Test.YtbnneahjjcamlaaBoilI
namespace Go.Proofs.Ytbnneahjjcamlaa
open Go.ChangeShapes Go.WideShapes Go.ChangeAt Go.RowKit
set_option linter.unusedVariables false

def ResI (w : World) (lo hi : Nat) (v : Value) (d : List Int) : Prop := ∃ A n c, v = .slice A n c ∧ n ≤ 1048576 ∧ SlI w lo hi A n d
def HeldI (m : Int) (d : List Int) (m' : Int) : Prop := 0 ≤ m ∧ m ≤ 1099511627776 ∧ m' = m + (d.length : Int) ∧ ∀ i, i < d.length → d[i]? = some (m + (i : Int))
theorem ResI.below {w w' : World} {lo hi B : Nat} {v : Value} {d : List Int} (h : ResI w lo hi v d) (hb : Below B w w') (hB : hi ≤ B ∨ w.heap.size ≤ B) : ResI w' lo hi v d := by
  obtain ⟨A, n, c, h1, h2, h3⟩ := h
  exact ⟨A, n, c, h1, h2, h3.below hb hB⟩
theorem ResI.only {w w' : World} {lo hi lo' hi' : Nat} {v : Value} {d : List Int} (h : ResI w lo hi v d) (g : Only lo' hi' w w') (hd : hi ≤ lo' ∨ hi' ≤ lo) : ResI w' lo hi v d := by
  obtain ⟨A, n, c, h1, h2, h3⟩ := h
  exact ⟨A, n, c, h1, h2, h3.only g hd⟩
theorem eqInt64S_u {v u : Value} {d e : List Int} {w : World} {lo hi lo' hi' : Nat} (h : ResI w lo hi v d) (g : ResI w lo' hi' u e) :
    Calls Try.prog 12 #[v, u] w fun r w' => r = .returned (.bool (decide (d = e))) ∧ Below w.heap.size w w' := by
  obtain ⟨A, n, c, rfl, h1, h2⟩ := h
  obtain ⟨B, m, b, rfl, g1, g2⟩ := g
  exact eqInt64S_calls A B n m c b d e w lo hi lo' hi' h2 g2 (by unfold maxLen; omega) (by unfold maxLen; omega)
theorem markInt64S_u {v : Value} {d : List Int} {m : Int} {w : World} {lo hi : Nat} (h : ResI w lo hi v d) (h0 : 0 ≤ m) (h1 : m ≤ 549755813888) :
    Calls Try.prog 15 #[v, .int .i64 m] w fun e w' => ∃ m' d', e = .returned (.int .i64 m') ∧ m ≤ m' ∧ m' ≤ m + 8388608 ∧ Only lo hi w w' ∧ ResI w' lo hi v d' ∧ HeldI m d' m' := by
  obtain ⟨A, n, c, rfl, h2, h3⟩ := h
  have hl := h3.len
  refine (markInt64S_calls A n c d m w lo hi h3 h2 h0 (by omega)).mono ?_
  rintro e w' ⟨rfl, hs, ho⟩
  refine ⟨_, _, rfl, by omega, by omega, ho, ⟨A, n, c, rfl, h2, hs⟩, h0, by omega, by rw [markI_len, hl], fun i hi => ?_⟩
  rw [markI_len] at hi
  rw [markI_get _ _ _ i (by omega) hi]
theorem heldInt64S_u {v : Value} {d : List Int} {m m' : Int} {w : World} {lo hi : Nat} (h : ResI w lo hi v d) (hh : HeldI m d m') :
    Calls Try.prog 16 #[v, .int .i64 m] w fun e w' => e = .returned (.int .i64 m') ∧ w = w' := by
  obtain ⟨A, n, c, rfl, h2, h3⟩ := h
  obtain ⟨k0, k1, rfl, k2⟩ := hh
  have hl := h3.len
  rw [hl]
  exact heldInt64S_calls A n c d m w lo hi h3 h2 k0 k1 (fun i hi => k2 i (by omega))

end Go.Proofs.Ytbnneahjjcamlaa
