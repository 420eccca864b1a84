/-
  Plain definitions on lists of terms (pairs of numbers): arity, validity. Conditions: none.
-/
import Derived.Test.YtdjhpdmpibokhaaWords
namespace Go.Proofs.Ytdjhpdmpibokhaa

def arity (t : Int × Int) : Int := if t.1 = 2 then 2 else if t.1 = 3 then 1 else 0
def okTerm (t : Int × Int) (v : Int) : Bool :=
  if t.1 = 0 then inB t.2 0 63 else if t.1 = 1 then inB t.2 0 (v - 1) else if t.1 = 2 then inB t.2 0 8 else if t.1 = 3 then decide (t.2 = 0) else false
def isLoop : List (Int × Int) → Int → Int → Bool
  | [], _, need => decide (need = 0)
  | t :: r, v, need => if need = 0 then false else if okTerm t v = true then isLoop r v (need + arity t - 1) else false
def isTerms (l : List (Int × Int)) (v most : Int) : Bool := if most < l.length then false else isLoop l v 1
def validTerms (l : List (Int × Int)) (v most : Int) : Bool := inB v 0 29 && inB most 1 60 && isTerms l v most

theorem arity_bd (t : Int × Int) : 0 ≤ arity t ∧ arity t ≤ 2 := by unfold arity; split <;> (try split) <;> omega

theorem isLoop_zero {l : List (Int × Int)} {v : Int} {k : Nat} {x : Int × Int} (hx : l[k]? = some x) : isLoop (l.drop k) v 0 = false := by
  obtain ⟨hk, rfl⟩ := List.getElem?_eq_some_iff.1 hx
  rw [List.drop_eq_getElem_cons hk]
  simp [isLoop]
theorem isLoop_bad {l : List (Int × Int)} {v q : Int} {k : Nat} {x : Int × Int} (hx : l[k]? = some x) (hb : okTerm x v = false) : isLoop (l.drop k) v q = false := by
  obtain ⟨hk, rfl⟩ := List.getElem?_eq_some_iff.1 hx
  rw [List.drop_eq_getElem_cons hk]
  simp [isLoop, hb]
theorem isLoop_step {l : List (Int × Int)} {v q : Int} {k : Nat} {x : Int × Int} (hx : l[k]? = some x) (hq : q ≠ 0) (hb : okTerm x v = true) :
    isLoop (l.drop k) v q = isLoop (l.drop (k + 1)) v (q + arity x - 1) := by
  obtain ⟨hk, rfl⟩ := List.getElem?_eq_some_iff.1 hx
  rw [List.drop_eq_getElem_cons hk]
  simp [isLoop, hb, hq]
theorem isLoop_end {l : List (Int × Int)} {v q : Int} {k : Nat} (hk : l.length = k) : isLoop (l.drop k) v q = decide (q = 0) := by
  rw [List.drop_eq_nil_of_le (by omega)]
  rfl
theorem isLoop_step' {l : List (Int × Int)} {v q q' : Int} {k : Nat} {x : Int × Int} {r : Bool} (h : r = isLoop (l.drop k) v q) (hx : l[k]? = some x) (hq : q ≠ 0) (hb : okTerm x v = true) (e : q' = q + arity x - 1) :
    r = isLoop (l.drop (k + 1)) v q' := by
  rw [h, isLoop_step hx hq hb, e]

theorem isTerms_len {l : List (Int × Int)} {v most : Int} (h : isTerms l v most = true) : (l.length : Int) ≤ most := by
  unfold isTerms at h
  split at h
  · cases h
  · omega
theorem isTerms_pos {l : List (Int × Int)} {v most : Int} (h : isTerms l v most = true) : 0 < l.length := by
  unfold isTerms at h
  split at h
  · cases h
  · cases l with
    | nil => simp [isLoop] at h
    | cons x l => simp

/-- One term replaced. -/
def put1 (k : Int) (by_ : List (Int × Int)) (t : Int × Int) : List (Int × Int) := if t.1 = 1 ∧ t.2 = k then by_ else [t]
def putTerms (l : List (Int × Int)) (k : Int) (by_ : List (Int × Int)) : List (Int × Int) := l.flatMap (put1 k by_)

theorem put1_yes {k x1 x2 : Int} {by_ : List (Int × Int)} (h : x1 = 1 ∧ x2 = k) : put1 k by_ (x1, x2) = by_ := if_pos h
theorem put1_no {k x1 x2 : Int} {by_ : List (Int × Int)} (h : ¬ (x1 = 1 ∧ x2 = k)) : put1 k by_ (x1, x2) = [(x1, x2)] := if_neg h
theorem take_end {α : Type} {l : List α} {n : Nat} (h : l.length = n) : l.take n = l := List.take_of_length_le (by omega)

/-- What Substitute answers: the terms and the code. -/
def substituteF (l : List (Int × Int)) (k : Int) (r : List (Int × Int)) : List (Int × Int) × Int :=
  if isTerms l 29 60 = false ∨ isTerms r 29 60 = false then ([], 1) else if inB k 0 28 = false then ([], 2) else if 60 < (putTerms l k r).length then ([], 5) else (putTerms l k r, 0)

def repl1 (G : Int → Option (List (Int × Int))) (t : Int × Int) : List (Int × Int) := if t.1 = 1 then (G t.2).getD [t] else [t]
def replTerms (G : Int → Option (List (Int × Int))) (l : List (Int × Int)) : List (Int × Int) := l.flatMap (repl1 G)
theorem repl1_no {G : Int → Option (List (Int × Int))} {x1 x2 : Int} (h : ¬ x1 = 1) : repl1 G (x1, x2) = [(x1, x2)] := if_neg h
theorem repl1_none {G : Int → Option (List (Int × Int))} {x2 : Int} (h : G x2 = none) : repl1 G (1, x2) = [(1, x2)] := by unfold repl1; rw [if_pos rfl, h]; rfl
theorem repl1_some {G : Int → Option (List (Int × Int))} {x2 : Int} {r : List (Int × Int)} (h : G x2 = some r) : repl1 G (1, x2) = r := by unfold repl1; rw [if_pos rfl, h]; rfl

theorem repl_put (l : List (Int × Int)) (k : Int) (r : List (Int × Int)) : replTerms (fun v => if v = k then some r else none) l = putTerms l k r := by
  unfold replTerms putTerms
  congr 1
  funext t
  unfold repl1 put1
  by_cases h1 : t.1 = 1
  · by_cases h2 : t.2 = k
    · simp [h1, h2]
    · simp [h1, h2]
  · simp [h1]

theorem isLoop_ok {v : Int} : ∀ (l : List (Int × Int)) (q : Int), isLoop l v q = true → ∀ x ∈ l, okTerm x v = true := by
  intro l
  induction l with
  | nil => intro q h x hx; cases hx
  | cons y l ih =>
    intro q h x hx
    simp only [isLoop] at h
    split at h
    · cases h
    · split at h
      · rename_i hok
        rcases List.mem_cons.1 hx with rfl | hx
        · exact hok
        · exact ih _ h x hx
      · cases h
theorem isTerms_ok {l : List (Int × Int)} {v most : Int} (h : isTerms l v most = true) : ∀ x ∈ l, okTerm x v = true := by
  unfold isTerms at h
  split at h
  · cases h
  · exact isLoop_ok l 1 h
theorem isTerms_var {l : List (Int × Int)} {v most : Int} (h : isTerms l v most = true) (k : Nat) (x : Int) (hx : l[k]? = some (1, x)) : 0 ≤ x ∧ x ≤ v - 1 := by
  have h1 := isTerms_ok h (1, x) (List.mem_of_getElem? hx)
  simpa [okTerm, inB] using h1

/-- One term shifted. -/
def shift1 (from_ by_ : Int) (t : Int × Int) : Int × Int := if t.1 = 1 ∧ from_ ≤ t.2 then (1, t.2 + by_) else t
theorem shift1_yes {f b x1 x2 : Int} (h : x1 = 1 ∧ f ≤ x2) : shift1 f b (x1, x2) = (1, x2 + b) := if_pos h
theorem shift1_no {f b x1 x2 : Int} (h : ¬ (x1 = 1 ∧ f ≤ x2)) : shift1 f b (x1, x2) = (x1, x2) := if_neg h
/-- What ShiftVariables answers. -/
def shiftVariablesF (l : List (Int × Int)) (f b : Int) : List (Int × Int) × Int :=
  if isTerms l 29 60 = false then ([], 1) else if inB f 0 29 = false ∨ inB b (-29) 29 = false then ([], 2) else if isTerms (l.map (shift1 f b)) 29 60 = false then ([], 2) else (l.map (shift1 f b), 0)

theorem repl_shift (l : List (Int × Int)) (f b : Int) : replTerms (fun v => if v < f then none else some [(1, v + b)]) l = l.map (shift1 f b) := by
  unfold replTerms
  induction l with
  | nil => rfl
  | cons t l ih =>
    rw [List.flatMap_cons, ih, List.map_cons]
    have : repl1 (fun v => if v < f then none else some [(1, v + b)]) t = [shift1 f b t] := by
      unfold repl1 shift1
      by_cases h1 : t.1 = 1
      · by_cases h2 : t.2 < f
        · have h3 : ¬ f ≤ t.2 := by omega
          simp [h1, h2, h3]
        · have h3 : f ≤ t.2 := by omega
          simp [h1, h2, h3]
      · simp [h1]
    rw [this]
    rfl

end Go.Proofs.Ytdjhpdmpibokhaa
