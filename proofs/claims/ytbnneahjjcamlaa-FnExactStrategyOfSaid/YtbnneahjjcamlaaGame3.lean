/-
  Games on graphs: sets being filled, and a round of the reference's search for an attractor, as plain mathematics. Conditions: none.
-/
import Derived.Test.YtbnneahjjcamlaaGame2
namespace Go.Proofs.Ytbnneahjjcamlaa
set_option linter.unusedVariables false

/-- Whether a list holds somewhere. -/
def anyS (l : List Bool) : Bool := l.any id
theorem anyS_of {l : List Bool} {k : Nat} (hk : k < l.length) (h : inS l k = true) : anyS l = true := by
  have := inS_get hk
  rw [h] at this
  exact List.any_eq_true.2 ⟨true, List.mem_of_getElem? this, rfl⟩
theorem anyS_false {l : List Bool} (h : ∀ k, k < l.length → inS l k = false) : anyS l = false := by
  unfold anyS
  rw [List.any_eq_false]
  intro x hx
  obtain ⟨i, hi⟩ := List.getElem?_of_mem hx
  have hl := (List.getElem?_eq_some_iff.1 hi).1
  have := inS_some hi
  rw [h i hl] at this
  simp [← this]
theorem anyS_idx {l : List Bool} : (decide ((idxOf l).length = 0)) = !anyS l := by
  by_cases h : ∃ k, k < l.length ∧ inS l k = true
  · obtain ⟨k, hk, hq⟩ := h
    rw [anyS_of hk hq]
    have : (k : Int) ∈ idxOf l := mem_idx.2 ⟨k, rfl, hq⟩
    have := List.length_pos_of_mem this
    simp
    intro e; rw [e] at this; simp at this
  · have h1 : ∀ k, k < l.length → inS l k = false := fun k hk => by
      cases e : inS l k with
      | false => rfl
      | true => exact absurd ⟨k, hk, e⟩ h
    rw [anyS_false h1]
    have : idxOf l = [] := List.eq_nil_iff_forall_not_mem.2 fun x hx => by
      obtain ⟨v, rfl, hv⟩ := mem_idx.1 hx
      exact h ⟨v, inS_lt hv, hv⟩
    simp [this]
theorem anyS_range {l : List Bool} {n : Nat} (hn : l.length = n) : anyS l = (List.range n).any (inS l) := by
  rw [Bool.eq_iff_iff, List.any_eq_true]
  constructor
  · intro h
    obtain ⟨x, hx, hq⟩ := List.any_eq_true.1 h
    obtain ⟨i, hi⟩ := List.getElem?_of_mem hx
    have hl := (List.getElem?_eq_some_iff.1 hi).1
    exact ⟨i, List.mem_range.2 (by omega), by rw [inS_some hi]; exact hq⟩
  · rintro ⟨i, hi, hq⟩
    exact anyS_of (by rw [List.mem_range] at hi; omega) hq

/-- A set of which the first k places are filled. -/
def setK (n k : Nat) (p : Nat → Bool) : List Bool := setOf n fun v => decide (v < k) && p v
theorem setK_len (n k : Nat) (p : Nat → Bool) : (setK n k p).length = n := setOf_len _ _
theorem setK_zero (n : Nat) (p : Nat → Bool) : setK n 0 p = setOf n fun _ => false := setOf_congr fun v _ => by simp
theorem setK_all (n : Nat) (p : Nat → Bool) : setK n n p = setOf n p := setOf_congr fun v hv => by simp [hv]
theorem inS_setK {n k : Nat} {p : Nat → Bool} {v : Nat} : inS (setK n k p) v = (decide (v < n) && (decide (v < k) && p v)) := inS_setOf
theorem setK_step {n k : Nat} {p : Nat → Bool} {b : Bool} (hk : k < n) (hb : b = p k) : (setK n k p).set k b = setK n (k + 1) p := by
  subst hb
  refine inS_ext (by simp [setK_len]) fun v hv => ?_
  rw [List.length_set, setK_len] at hv
  rw [inS_set (by rw [setK_len]; exact hk), inS_setK, inS_setK]
  by_cases e : k = v
  · subst e; simp [hk]
  · have : (v < k) ↔ (v < k + 1) := by omega
    simp [e, hv, this]
/-- A set being changed place by place: the first k done. -/
def setM (s : List Bool) (k : Nat) (p : Nat → Bool) : List Bool := setOf s.length fun v => if v < k then p v else inS s v
theorem setM_len (s : List Bool) (k : Nat) (p : Nat → Bool) : (setM s k p).length = s.length := setOf_len _ _
theorem setM_zero (s : List Bool) (p : Nat → Bool) : setM s 0 p = s := by
  unfold setM
  refine (setOf_congr fun v hv => ?_).trans (setOf_inS rfl)
  simp
theorem setM_all {s : List Bool} {n : Nat} (p : Nat → Bool) (hn : s.length = n) : setM s n p = setOf n p := by
  subst hn
  exact setOf_congr fun v hv => by simp [hv]
theorem inS_setM {s : List Bool} {k : Nat} {p : Nat → Bool} (hk : k < s.length) : inS (setM s k p) k = inS s k := by
  unfold setM; rw [inS_setOf]; simp [hk]
theorem setM_step {s : List Bool} {k : Nat} {p : Nat → Bool} {b : Bool} (hk : k < s.length) (hb : b = p k) : (setM s k p).set k b = setM s (k + 1) p := by
  subst hb
  refine inS_ext (by simp [setM_len]) fun v hv => ?_
  rw [List.length_set, setM_len] at hv
  rw [inS_set (by rw [setM_len]; exact hk)]
  unfold setM
  rw [inS_setOf, inS_setOf]
  by_cases e : k = v
  · subst e; simp [hk]
  · have : (v < k) ↔ (v < k + 1) := by omega
    simp [e, hv, this]
theorem range_map_step {α : Type} (p : Nat → α) (k : Nat) : (List.range (k + 1)).map p = (List.range k).map p ++ [p k] := by rw [List.range_succ, List.map_append]; rfl

section
variable {alive out : List Bool} {l : List Int} {k : Nat} {x : Int}
theorem someL_step (hx : l[k]? = some x) : someL alive out ((l.take (k + 1)).map Int.toNat) = (someL alive out ((l.take k).map Int.toNat) || (inS alive x.toNat && inS out x.toNat)) := by
  unfold someL; rw [List.take_add_one, hx, List.map_append, List.any_append]; simp
theorem allL_step (hx : l[k]? = some x) : allL alive out ((l.take (k + 1)).map Int.toNat) = (allL alive out ((l.take k).map Int.toNat) && (!inS alive x.toNat || inS out x.toNat)) := by
  unfold allL; rw [List.take_add_one, hx, List.map_append, List.all_append]; simp
theorem anyL_step (hx : l[k]? = some x) : anyL alive ((l.take (k + 1)).map Int.toNat) = (anyL alive ((l.take k).map Int.toNat) || inS alive x.toNat) := by
  unfold anyL; rw [List.take_add_one, hx, List.map_append, List.any_append]; simp
end

/-- Where a pass of the reference's search stands: out0 at its beginning, out now, the first k vertices looked at. -/
structure Pass (g : DV) (alive : List Bool) (player : Int) (set out0 out : List Bool) (k : Nat) (more : Bool) : Prop where
  bet : Between g alive player set out
  grows : numS out0 ≤ numS out
  no : more = false → out = out0 ∧ ∀ v, v < k → Closed g alive player out0 v
  yes : more = true → numS out0 < numS out

section
variable {g : DV} {alive set out0 out : List Bool} {player : Int} {k : Nat} {more : Bool}
theorem Pass.start (h : Between g alive player set out0) : Pass g alive player set out0 out0 0 false := ⟨h, Nat.le_refl _, fun _ => ⟨rfl, fun v hv => absurd hv (by omega)⟩, fun h => by cases h⟩
theorem Pass.skip (h : Pass g alive player set out0 out k more) (hc : Closed g alive player out k) : Pass g alive player set out0 out (k + 1) more :=
  ⟨h.bet, h.grows, fun hm => ⟨(h.no hm).1, fun v hv => by
    by_cases e : v = k
    · subst e; rw [← (h.no hm).1]; exact hc
    · exact (h.no hm).2 v (by omega)⟩, h.yes⟩
theorem Pass.add (h : Pass g alive player set out0 out k more) (hk : k < g.length) (ho : inS out k = false) (a : Attr g alive player set k) : Pass g alive player set out0 (out.set k true) (k + 1) true := by
  have h1 := numS_set (s := out) (v := k) (by rw [h.bet.len]; exact hk) ho
  have h2 := h.grows
  exact ⟨h.bet.add hk a, by omega, fun h => (by cases h), fun _ => by omega⟩
end

/-- What a vertex of the search is found by. -/
def hitB (own : Bool) (some all any : Bool) : Bool := (own && some) || (!own && any && all)
theorem hit_attr {g : DV} {alive set out : List Bool} {player : Int} {v : Nat} (h : Between g alive player set out) (h1 : inS alive v = true)
    (h2 : hitB (decide (gOwn g v = player)) (someL alive out (gNxt g v)) (allL alive out (gNxt g v)) (anyL alive (gNxt g v)) = true) : Attr g alive player set v := by
  unfold hitB at h2
  by_cases ho : gOwn g v = player
  · simp [ho] at h2; exact attr_of_own h h1 ho h2
  · simp [ho] at h2; exact attr_of_other h h1 ho h2.1 h2.2
theorem miss_closed {g : DV} {alive out : List Bool} {player : Int} {v : Nat}
    (h2 : hitB (decide (gOwn g v = player)) (someL alive out (gNxt g v)) (allL alive out (gNxt g v)) (anyL alive (gNxt g v)) = false) : Closed g alive player out v := by
  unfold hitB at h2
  by_cases ho : gOwn g v = player
  · simp [ho] at h2; exact closed_of_own ho h2
  · simp [ho] at h2; exact closed_of_other ho (by cases ha : anyL alive (gNxt g v) <;> simp_all)

end Go.Proofs.Ytbnneahjjcamlaa
