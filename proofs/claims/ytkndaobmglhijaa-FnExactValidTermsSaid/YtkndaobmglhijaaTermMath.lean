/-
  Plain definitions on lists of terms (pairs of numbers): arity, validity. Conditions: none.
-/
import Derived.Test.YtkndaobmglhijaaWords
namespace Go.Proofs.Ytkndaobmglhijaa

def arity (t : Int × Int) : Int := if t.1 = 2 then 2 else if t.1 = 3 then 1 else 0
def okTerm (t : Int × Int) (v : Int) : Bool :=
  if t.1 = 0 then inB t.2 0 63 else if t.1 = 1 then inB t.2 0 (v - 1) else if t.1 = 2 then inB t.2 0 8 else if t.1 = 3 then decide (t.2 = 0) else false
def isLoop : List (Int × Int) → Int → Int → Bool
  | [], _, need => decide (need = 0)
  | t :: r, v, need => if need = 0 then false else if okTerm t v = true then isLoop r v (need + arity t - 1) else false
def isTerms (l : List (Int × Int)) (v most : Int) : Bool := if most < l.length then false else isLoop l v 1
def validTerms (l : List (Int × Int)) (v most : Int) : Bool := inB v 0 29 && inB most 1 60 && isTerms l v most

theorem arity_bd (t : Int × Int) : 0 ≤ arity t ∧ arity t ≤ 2 := by unfold arity; split <;> (try split) <;> omega

theorem isLoop_zero {l : List (Int × Int)} {v : Int} {k : Nat} {x : Int × Int} (hx : l[k]? = some x) : isLoop (l.drop k) v 0 = false := by
  obtain ⟨hk, rfl⟩ := List.getElem?_eq_some_iff.1 hx
  rw [List.drop_eq_getElem_cons hk]
  simp [isLoop]
theorem isLoop_bad {l : List (Int × Int)} {v q : Int} {k : Nat} {x : Int × Int} (hx : l[k]? = some x) (hb : okTerm x v = false) : isLoop (l.drop k) v q = false := by
  obtain ⟨hk, rfl⟩ := List.getElem?_eq_some_iff.1 hx
  rw [List.drop_eq_getElem_cons hk]
  simp [isLoop, hb]
theorem isLoop_step {l : List (Int × Int)} {v q : Int} {k : Nat} {x : Int × Int} (hx : l[k]? = some x) (hq : q ≠ 0) (hb : okTerm x v = true) :
    isLoop (l.drop k) v q = isLoop (l.drop (k + 1)) v (q + arity x - 1) := by
  obtain ⟨hk, rfl⟩ := List.getElem?_eq_some_iff.1 hx
  rw [List.drop_eq_getElem_cons hk]
  simp [isLoop, hb, hq]
theorem isLoop_end {l : List (Int × Int)} {v q : Int} {k : Nat} (hk : l.length = k) : isLoop (l.drop k) v q = decide (q = 0) := by
  rw [List.drop_eq_nil_of_le (by omega)]
  rfl
theorem isLoop_step' {l : List (Int × Int)} {v q q' : Int} {k : Nat} {x : Int × Int} {r : Bool} (h : r = isLoop (l.drop k) v q) (hx : l[k]? = some x) (hq : q ≠ 0) (hb : okTerm x v = true) (e : q' = q + arity x - 1) :
    r = isLoop (l.drop (k + 1)) v q' := by
  rw [h, isLoop_step hx hq hb, e]

end Go.Proofs.Ytkndaobmglhijaa
