/-
  Transition systems as data, and what makes one valid, deterministic. Conditions: none.
-/
import Derived.Test.YtiaclddgllkgpaaGreatDoorLabMath
import Derived.Test.YtiaclddgllkgpaaGreatDoorBoilEd
namespace Go.Proofs.YtiaclddgllkgpaaGreatDoor
set_option linter.unusedVariables false

/-! ## All of the first n numbers -/
def allK (p : Nat → Bool) (n : Nat) : Bool := (List.range n).all p
theorem allK_bad {p : Nat → Bool} {n k : Nat} (hk : k < n) (h : p k = false) : allK p n = false := by
  unfold allK
  rw [← Bool.not_eq_true, List.all_eq_true]
  intro hc
  have := hc k (List.mem_range.2 hk)
  rw [h] at this
  cases this
theorem allK_good {p : Nat → Bool} {n : Nat} (h : ∀ j, j < n → p j = true) : allK p n = true :=
  List.all_eq_true.2 fun k hk => h k (List.mem_range.1 hk)
theorem allK_get {p : Nat → Bool} {n : Nat} (h : allK p n = true) {k : Nat} (hk : k < n) : p k = true :=
  (List.all_eq_true.1 h) k (List.mem_range.2 hk)
theorem lt_succ_cases {p : Nat → Prop} {k : Nat} (h : ∀ j, j < k → p j) (hk : p k) : ∀ j, j < k + 1 → p j := fun j hj => by
  rcases Nat.lt_or_ge j k with h1 | h1
  · exact h j h1
  · have : j = k := by omega
    subst this
    exact hk

/-! ## Data -/
/-- States, initial state, labels, edges. -/
abbrev DL := Int × Int × List ByteArray × List Ed

def tauB : ByteArray := ⟨#[116, 97, 117]⟩
/-- Order of edges. -/
def edLess (a b : Ed) : Bool := if a.1 ≠ b.1 then decide (a.1 < b.1) else if a.2.1 ≠ b.2.1 then decide (a.2.1 < b.2.1) else decide (a.2.2 < b.2.2)

section
variable (labB : ByteArray → Bool) (sLess : ByteArray → ByteArray → Bool)
/-- Label k is in order. -/
def okLab (ls : List ByteArray) (k : Nat) : Bool := match ls[k]? with
  | some s => labB s && (decide (s = tauB) == decide (k = 0)) && (decide (k ≤ 1) || match ls[k - 1]? with | some r => sLess r s | none => true)
  | none => true
def okEd (st m : Int) (es : List Ed) (k : Nat) : Bool := match es[k]? with
  | some e => inB e.1 0 (st - 1) && inB e.2.2 0 (st - 1) && inB e.2.1 0 (m - 1) && (decide (k = 0) || match es[k - 1]? with | some r => edLess r e | none => true)
  | none => true
def ltsB (d : DL) : Bool :=
  (inB d.1 1 40 && inB d.2.1 0 (d.1 - 1) && inB (d.2.2.1.length : Int) 1 12 && decide (d.2.2.2.length ≤ 300)) &&
  (allK (okLab labB sLess d.2.2.1) d.2.2.1.length && allK (okEd d.1 d.2.2.1.length d.2.2.2) d.2.2.2.length)
end
/-- Edge k keeps a system deterministic. -/
def okDet (es : List Ed) (k : Nat) : Bool := match es[k]? with
  | some e => !(decide (e.2.1 = 0)) && (decide (k = 0) || match es[k - 1]? with | some r => !(decide (r.1 = e.1) && decide (r.2.1 = e.2.1)) | none => true)
  | none => true
def detB (es : List Ed) : Bool := allK (okDet es) es.length
def okRise (hi : Int) (l : List Int) (k : Nat) : Bool := match l[k]? with
  | some n => inB n 0 hi && (decide (k = 0) || match l[k - 1]? with | some m => decide (m < n) | none => true)
  | none => true

end Go.Proofs.YtiaclddgllkgpaaGreatDoor
