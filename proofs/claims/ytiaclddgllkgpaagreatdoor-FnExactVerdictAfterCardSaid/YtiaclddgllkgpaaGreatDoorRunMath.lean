/-
  A monitor's run over a trace, and what it lets through: plain. Conditions: none.
-/
import Derived.Test.YtiaclddgllkgpaaGreatDoorObs
namespace Go.Proofs.YtiaclddgllkgpaaGreatDoor
open Go.ChangeShapes Go.WideShapes Go.ChangeAt Go.RowKit Go.Sort
set_option linter.unusedVariables false

/-- The verdict, the number of labels, the code. -/
def runG (d : DM) : List ByteArray → Int → Int → Int × Int × Int
  | [], s, n => (verM d s, n, 0)
  | lab :: t, s, n => if verM d s = 0 then (if nextM d lab s < 0 then (0, 0, 3) else runG d t (nextM d lab s) (n + 1)) else (verM d s, n, 0)
theorem drop_cons {α : Type} {l : List α} {k : Nat} {x : α} (h : l[k]? = some x) : l.drop k = x :: l.drop (k + 1) := by
  obtain ⟨h1, h2⟩ := List.getElem?_eq_some_iff.1 h
  rw [List.drop_eq_getElem_cons h1, h2]
theorem runG_end {d : DM} {tr : List ByteArray} {k : Nat} {s n : Int} (h : tr.length ≤ k) : runG d (tr.drop k) s n = (verM d s, n, 0) := by
  rw [List.drop_eq_nil_of_le h]; rfl
theorem runG_stop {d : DM} {tr : List ByteArray} {s n : Int} (h : ¬ verM d s = 0) : runG d tr s n = (verM d s, n, 0) := by
  cases tr with
  | nil => rfl
  | cons a t => unfold runG; rw [if_neg h]
theorem runG_bad {d : DM} {tr : List ByteArray} {k : Nat} {lab : ByteArray} {s n : Int} (hx : tr[k]? = some lab) (h : verM d s = 0) (h1 : nextM d lab s < 0) : runG d (tr.drop k) s n = (0, 0, 3) := by
  rw [drop_cons hx]; unfold runG; rw [if_pos h, if_pos h1]
theorem runG_step {d : DM} {tr : List ByteArray} {k : Nat} {lab : ByteArray} {s n : Int} (hx : tr[k]? = some lab) (h : verM d s = 0) (h1 : ¬ nextM d lab s < 0) : runG d (tr.drop k) s n = runG d (tr.drop (k + 1)) (nextM d lab s) (n + 1) := by
  rw [drop_cons hx]; conv => lhs; unfold runG
  rw [if_pos h, if_neg h1]
def runF (d : DM) (tr : List ByteArray) : Int × Int × Int :=
  if monV d = true then (if visB tr = true then runG d tr d.1.2.1 0 else (0, 0, 2)) else (0, 0, 1)

/-- What is let through. -/
def enfG (d : DM) : List ByteArray → Int → List ByteArray
  | [], _ => []
  | lab :: t, s => if 0 ≤ nextM d lab s ∧ verM d (nextM d lab s) ≠ 2 then lab :: enfG d t (nextM d lab s) else enfG d t s
theorem enfG_end {d : DM} {tr : List ByteArray} {k : Nat} {s : Int} (h : tr.length ≤ k) : enfG d (tr.drop k) s = [] := by
  rw [List.drop_eq_nil_of_le h]; rfl
theorem enfG_take {d : DM} {tr : List ByteArray} {k : Nat} {lab : ByteArray} {s : Int} (hx : tr[k]? = some lab) (h : 0 ≤ nextM d lab s) (h1 : verM d (nextM d lab s) ≠ 2) : enfG d (tr.drop k) s = lab :: enfG d (tr.drop (k + 1)) (nextM d lab s) := by
  rw [drop_cons hx]; conv => lhs; unfold enfG
  rw [if_pos ⟨h, h1⟩]
theorem enfG_skip {d : DM} {tr : List ByteArray} {k : Nat} {lab : ByteArray} {s : Int} (hx : tr[k]? = some lab) (h : ¬ (0 ≤ nextM d lab s ∧ verM d (nextM d lab s) ≠ 2)) : enfG d (tr.drop k) s = enfG d (tr.drop (k + 1)) s := by
  rw [drop_cons hx]; conv => lhs; unfold enfG
  rw [if_neg h]
theorem enfG_len (d : DM) : ∀ (tr : List ByteArray) (s : Int), (enfG d tr s).length ≤ tr.length
  | [], _ => Nat.le_refl _
  | lab :: t, s => by
    unfold enfG
    split
    · simp only [List.length_cons]; exact Nat.succ_le_succ (enfG_len d t _)
    · simp only [List.length_cons]; exact Nat.le_succ_of_le (enfG_len d t _)
def enfF (d : DM) (tr : List ByteArray) : List ByteArray × Int :=
  if monV d = true then (if visB tr = true then (if verM d d.1.2.1 = 2 then ([], 6) else (enfG d tr d.1.2.1, 0)) else ([], 2)) else ([], 1)

end Go.Proofs.YtiaclddgllkgpaaGreatDoor
