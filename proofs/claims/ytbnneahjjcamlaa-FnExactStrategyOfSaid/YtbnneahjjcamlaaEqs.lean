/-
  Equation systems: blocks, validity, the game of a system, as plain mathematics. Conditions: none.
-/
import Derived.Test.YtbnneahjjcamlaaGame4
namespace Go.Proofs.Ytbnneahjjcamlaa
set_option linter.unusedVariables false

/-- An equation: greatest, all, terms. -/
abbrev Ex := Bool × Bool × List Int
abbrev DE := List Ex
def eGr (e : DE) (i : Nat) : Bool := (e[i]?.map fun x => x.1).getD false
theorem eGr_at {e : DE} {i : Nat} {a b : Bool} {l : List Int} (h : e[i]? = some (a, b, l)) : eGr e i = a := by unfold eGr; rw [h]; rfl
/-- The number of the block of equation i. -/
def blockNo (e : DE) : Nat → Nat
  | 0 => 0
  | i + 1 => blockNo e i + if eGr e (i + 1) != eGr e i then 1 else 0
theorem blockNo_le (e : DE) (i : Nat) : blockNo e i ≤ i := by
  induction i with
  | zero => exact Nat.le_refl _
  | succ i ih =>
    have h2 : blockNo e (i + 1) = blockNo e i + if eGr e (i + 1) != eGr e i then 1 else 0 := rfl
    rw [h2]
    split <;> omega
theorem blockNo_mono (e : DE) {i j : Nat} (h : i ≤ j) : blockNo e i ≤ blockNo e j := by
  induction j with
  | zero => have : i = 0 := by omega
            subst this; exact Nat.le_refl _
  | succ j ih =>
    rcases Nat.lt_or_ge i (j + 1) with h1 | h1
    · have := ih (by omega)
      unfold blockNo
      split <;> exact Nat.le_trans this (Nat.le_add_right _ _)
    · have : i = j + 1 := by omega
      subst this
      exact Nat.le_refl _
def blocksF (e : DE) (k : Nat) : List Int := (List.range k).map fun i => (blockNo e i : Int)

/-- A system is valid. -/
def EqOk (e : DE) : Prop := (1 ≤ e.length ∧ e.length ≤ 120) ∧ blockNo e (e.length - 1) < 9 ∧ ∀ x, x ∈ e → Inc e.length x.2.2
instance (e : DE) : Decidable (EqOk e) := by unfold EqOk; infer_instance

/-- The vertex of equation i. -/
def vxOf (e : DE) (i : Nat) : Vx := match e[i]? with
  | some (a, b, l) => (if b then 1 else 0, (blockNo e i : Int) + (if eGr e 0 then 0 else 1), l)
  | none => (0, 0, [])
theorem vxOf_at {e : DE} {i : Nat} {a b : Bool} {l : List Int} (h : e[i]? = some (a, b, l)) : vxOf e i = (if b then 1 else 0, (blockNo e i : Int) + (if eGr e 0 then 0 else 1), l) := by unfold vxOf; rw [h]
def eqGame (e : DE) : DV := (List.range e.length).map (vxOf e)
theorem eqGame_len (e : DE) : (eqGame e).length = e.length := by simp [eqGame]
theorem eqGame_ok {e : DE} (h : EqOk e) : GameOk (eqGame e) := by
  refine ⟨by rw [eqGame_len]; exact h.1, fun x hx => ?_⟩
  rw [eqGame_len]
  obtain ⟨i, hi, rfl⟩ := List.mem_map.1 hx
  rw [List.mem_range] at hi
  obtain ⟨⟨a, b, l⟩, he⟩ : ∃ y, e[i]? = some y := ⟨_, List.getElem?_eq_getElem hi⟩
  rw [vxOf_at he]
  have h1 := h.2.2 _ (List.mem_of_getElem? he)
  have h2 := blockNo_mono e (show i ≤ e.length - 1 by omega)
  have h3 := h.2.1
  refine ⟨by cases b <;> simp, ⟨?_, ?_⟩, h1⟩
  · show 0 ≤ (blockNo e i : Int) + _
    split <;> omega
  · show (blockNo e i : Int) + _ ≤ 9
    split <;> omega

noncomputable def solveF (e : DE) : List Bool := (winnersF (eqGame e)).map fun x => x == 0
noncomputable def solveEquationsF (e : DE) : List Bool × Int := if decide (EqOk e) then (solveF e, 0) else ([], 1)
theorem winnersF_len (g : DV) : (winnersF g).length = g.length := by simp [winnersF]

theorem eqok_any {e : DE} (hl : 1 ≤ e.length ∧ e.length ≤ 120) (hb : blockNo e (e.length - 1) < 9) : decide (EqOk e) = !(e.any fun x => !decide (Inc e.length x.2.2)) := by
  by_cases h : ∀ x, x ∈ e → Inc e.length x.2.2
  · have h1 : (e.any fun x => !decide (Inc e.length x.2.2)) = false := List.any_eq_false.2 fun x hx => by simp [h x hx]
    rw [decide_eq_true (show EqOk e from ⟨hl, hb, h⟩), h1]
    rfl
  · have h1 : (e.any fun x => !decide (Inc e.length x.2.2)) = true := by
      rw [List.any_eq_true]
      exact Classical.byContradiction fun hn => h fun x hx => Classical.byContradiction fun hv => hn ⟨x, hx, by simp [hv]⟩
    rw [decide_eq_false (fun hg : EqOk e => h hg.2.2), h1]
    rfl

end Go.Proofs.Ytbnneahjjcamlaa
