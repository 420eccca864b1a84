/-
  What a predicate's call leaves. Conditions: none.
-/
import Derived.Test.YtbnneahjjcamlaaWords
namespace Go.Proofs.Ytbnneahjjcamlaa
open Go.RowKit

/-- What a predicate's call leaves. -/
def Says (b : Bool) (W : World) (e : Ending) (W' : World) : Prop := e = .returned (.bool b) ∧ Below W.heap.size W W'

theorem any_take_succ {α : Type} {G : α → Bool} {l : List α} {k : Nat} {x : α} (h : (l.take k).any G = false) (hx : l[k]? = some x) (hg : G x = false) : (l.take (k + 1)).any G = false := by
  rw [List.take_add_one, hx, List.any_append, h]
  simp [hg]
theorem any_hit {α : Type} {G : α → Bool} {l : List α} {k : Nat} {x : α} (hx : l[k]? = some x) (hg : G x = true) : l.any G = true :=
  List.any_eq_true.2 ⟨x, List.mem_of_getElem? hx, hg⟩

end Go.Proofs.Ytbnneahjjcamlaa
