/-
  The program's arena of a game: who may move where. Conditions: valid games.
-/
import Derived.Test.YtbnneahjjcamlaaArena2
import Derived.Deep.DeepCutAuto
import Derived.Deep.RegionLaw
namespace Go.Proofs.Ytbnneahjjcamlaa
open Go.ChangeShapes Go.WideShapes Go.ChangeAt Go.RowKit
set_option linter.unusedVariables false

/-- Which moves have been noted: those of the vertices below k, and the first j of k. -/
def BackK (g : DV) (L : List (List Int)) (k j : Nat) : Prop := L.length = g.length ∧ ∀ (m : Nat) (row : List Int), L[m]? = some row → row.Nodup ∧ ∀ b : Int, b ∈ row ↔ ∃ v : Nat, b = v ∧ ((v < k ∧ m ∈ gNxt g v) ∨ (v = k ∧ m ∈ (gNxt g k).take j))

section
variable {g : DV} {L : List (List Int)} {k j : Nat}
theorem BackK.start (h : ∀ (m : Nat) (row : List Int), L[m]? = some row → row = []) (hl : L.length = g.length) : BackK g L 0 0 := by
  refine ⟨hl, fun m row hm => ?_⟩
  rw [h m row hm]
  refine ⟨List.nodup_nil, fun b => ⟨fun hb => (List.not_mem_nil hb).elim, ?_⟩⟩
  rintro ⟨v, _, ⟨h1, _⟩ | ⟨_, h1⟩⟩
  · omega
  · simp at h1
theorem BackK.next (h : BackK g L k (gNxt g k).length) : BackK g L (k + 1) 0 := by
  refine ⟨h.1, fun m row hm => ⟨(h.2 m row hm).1, fun b => ((h.2 m row hm).2 b).trans ?_⟩⟩
  rw [List.take_length]
  constructor
  · rintro ⟨v, e, ⟨h1, h2⟩ | ⟨rfl, h2⟩⟩
    · exact ⟨v, e, .inl ⟨by omega, h2⟩⟩
    · exact ⟨v, e, .inl ⟨by omega, h2⟩⟩
  · rintro ⟨v, e, ⟨h1, h2⟩ | ⟨_, h2⟩⟩
    · by_cases hv : v = k
      · subst hv; exact ⟨v, e, .inr ⟨rfl, h2⟩⟩
      · exact ⟨v, e, .inl ⟨by omega, h2⟩⟩
    · simp at h2
theorem BackK.done (h : BackK g L k 0) (hk : g.length ≤ k) : BackOk g L := by
  refine ⟨h.1, fun m row hm => ⟨(h.2 m row hm).1, fun b => ((h.2 m row hm).2 b).trans ?_⟩⟩
  constructor
  · rintro ⟨v, e, ⟨_, h2⟩ | ⟨_, h2⟩⟩
    · exact ⟨v, e, h2⟩
    · simp at h2
  · rintro ⟨v, e, h2⟩
    exact ⟨v, e, .inl ⟨by have := gNxt_src h2; omega, h2⟩⟩
theorem BackK.step {x : Nat} {row : List Int} (h : BackK g L k j) (hn : (gNxt g k).Nodup) (hx : (gNxt g k)[j]? = some x) (hr : L[x]? = some row) : BackK g (L.set x (row ++ [(k : Int)])) k (j + 1) := by
  have hxl : x < L.length := (List.getElem?_eq_some_iff.1 hr).1
  have hnew : x ∉ (gNxt g k).take j := by
    intro hm
    obtain ⟨i, hi, e⟩ := List.mem_take_iff_getElem.1 hm
    obtain ⟨hj, e2⟩ := List.getElem?_eq_some_iff.1 hx
    have := List.pairwise_iff_getElem.1 hn i j (by omega) hj (by omega)
    rw [e, e2] at this
    exact this rfl
  refine ⟨by rw [List.length_set]; exact h.1, fun m r hm => ?_⟩
  have ht : (gNxt g k).take (j + 1) = (gNxt g k).take j ++ [x] := by rw [List.take_add_one, hx]; rfl
  by_cases e : x = m
  · subst e
    rw [List.getElem?_set_self hxl] at hm
    cases hm
    obtain ⟨h1, h2⟩ := h.2 x row hr
    refine ⟨List.nodup_append.2 ⟨h1, by simp, fun a ha b hb => ?_⟩, fun b => ?_⟩
    · simp at hb
      subst hb
      rintro rfl
      obtain ⟨v, e, ⟨h3, _⟩ | ⟨_, h3⟩⟩ := (h2 k).1 ha
      · omega
      · exact hnew h3
    · rw [List.mem_append, h2, ht]
      constructor
      · rintro (⟨v, e, h3 | ⟨e2, h3⟩⟩ | hb)
        · exact ⟨v, e, .inl h3⟩
        · exact ⟨v, e, .inr ⟨e2, List.mem_append_left _ h3⟩⟩
        · simp at hb
          exact ⟨k, hb, .inr ⟨rfl, by simp⟩⟩
      · rintro ⟨v, e, h3 | ⟨e2, h3⟩⟩
        · exact .inl ⟨v, e, .inl h3⟩
        · subst e2
          exact .inr (by simp [e])
  · rw [List.getElem?_set_ne e] at hm
    obtain ⟨h1, h2⟩ := h.2 m r hm
    refine ⟨h1, fun b => (h2 b).trans ?_⟩
    rw [ht]
    constructor
    · rintro ⟨v, e, h3 | ⟨e2, h3⟩⟩
      · exact ⟨v, e, .inl h3⟩
      · exact ⟨v, e, .inr ⟨e2, List.mem_append_left _ h3⟩⟩
    · rintro ⟨v, e, h3 | ⟨e2, h3⟩⟩
      · exact ⟨v, e, .inl h3⟩
      · rcases List.mem_append.1 h3 with h3 | h3
        · exact ⟨v, e, .inr ⟨e2, h3⟩⟩
        · simp at h3
          omega
theorem BackK.len (h : BackK g L k j) (hk : k < g.length) {m : Nat} {row : List Int} (hm : L[m]? = some row) : row.length ≤ g.length := by
  obtain ⟨h1, h2⟩ := h.2 m row hm
  have h3 := nodup_le g.length (row.map Int.toNat) (by
    unfold List.Nodup
    rw [List.pairwise_map]
    refine List.Pairwise.imp_of_mem ?_ h1
    intro a1 a2 m1 m2 hne e
    obtain ⟨v1, rfl, _⟩ := (h2 a1).1 m1
    obtain ⟨v2, rfl, _⟩ := (h2 a2).1 m2
    simp at e
    exact hne (by rw [e])) (fun x hx => by
    obtain ⟨y, hy, rfl⟩ := List.mem_map.1 hx
    obtain ⟨v1, rfl, h4⟩ := (h2 y).1 hy
    simp
    omega)
  rwa [List.length_map] at h3
end

/-- Rows of the call's own that grow, their handles in block bb. -/
structure BackM (w : World) (bb base : Nat) (R : List (Hd × List Int)) : Prop where
  outer : ∃ cur : Array Value, w.heap[bb]? = some (.cells cur 24 (0, 0)) ∧ cur.size = R.length ∧ ∀ (i : Nat) (r : Hd × List Int), R[i]? = some r → cur[i]? = some (.slice r.1.1 r.1.2.1 r.1.2.2)
  rows : ∀ (i : Nat) (r : Hd × List Int), R[i]? = some r → Own 1 iv w base 2 r.1.1 r.1.2.1 r.1.2.2 r.2
  apart : ∀ (i i' : Nat) (r r' : Hd × List Int), i ≠ i' → R[i]? = some r → R[i']? = some r' → (Value.slice r.1.1 r.1.2.1 r.1.2.2).ownBlock = none ∨ (Value.slice r.1.1 r.1.2.1 r.1.2.2).ownBlock ≠ (Value.slice r'.1.1 r'.1.2.1 r'.1.2.2).ownBlock

section
variable {w w' : World} {bb base : Nat} {R : List (Hd × List Int)}
theorem BackM.keep (h : BackM w bb base R) (hb : w'.heap[bb]? = w.heap[bb]?) (hk : ∀ b, base ≤ b → b < w.heap.size → w'.heap[b]? = w.heap[b]?) : BackM w' bb base R := by
  obtain ⟨cur, h1, h2⟩ := h.outer
  exact ⟨⟨cur, hb.trans h1, h2⟩, fun i r hr => (h.rows i r hr).keep fun g hg => hk g ((h.rows i r hr).lt g hg).1 ((h.rows i r hr).lt g hg).2, h.apart⟩
theorem BackM.lt (h : BackM w bb base R) : bb < w.heap.size := by obtain ⟨cur, h1, _⟩ := h.outer; exact (Array.getElem?_eq_some_iff.1 h1).1
theorem BackM.alloc (h : BackM w bb base R) (o : Obj) : BackM (w.alloc o) bb base R := h.keep (Below.heap_alloc _ _ _ h.lt) fun b _ hb => Below.heap_alloc _ _ _ hb
theorem BackM.cell (h : BackM w bb base R) {i : Nat} {r : Hd × List Int} (hr : R[i]? = some r) : w.cell? ⟨bb, i, none⟩ = some (.slice r.1.1 r.1.2.1 r.1.2.2) ∧ w.frozen? ⟨bb, i, none⟩ = false := by
  obtain ⟨cur, h1, h2, h3⟩ := h.outer
  exact ⟨(cell_of_row w bb i cur _ (0, 0) h1).trans (h3 i r hr), frozen_of_row w bb i cur _ h1⟩
/-- One row grew. -/
theorem BackM.push (h : BackM w bb base R) (hbb : bb < base) (hbase : base ≤ w.heap.size) {i : Nat} {r : Hd × List Int} (hr : R[i]? = some r) {A' : Option Addr} {n' c' : Nat} {s' : List Int} (ho : Own 1 iv w' base 2 A' n' c' s') (hg : w.grownBy w' (Value.slice r.1.1 r.1.2.1 r.1.2.2).ownBlock)
    (hat : (Value.slice A' n' c').ownBlock = (Value.slice r.1.1 r.1.2.1 r.1.2.2).ownBlock ∨ (Value.slice A' n' c').ownBlock = some w.heap.size) :
    BackM (w'.setCell ⟨bb, i, none⟩ (.slice A' n' c')) bb base (R.set i ((A', n', c'), s')) := by
  have hi : i < R.length := (List.getElem?_eq_some_iff.1 hr).1
  obtain ⟨cur, h1, h2, h3⟩ := h.outer
  have hne : ∀ b, b < base → some b ≠ (Value.slice r.1.1 r.1.2.1 r.1.2.2).ownBlock := fun b hb e => by
    have := ((h.rows i r hr).lt b e.symm).1
    omega
  have hkeep : ∀ g, base ≤ g → (w'.setCell ⟨bb, i, none⟩ (.slice A' n' c')).heap[g]? = w'.heap[g]? := fun g hg => Below.heap_setCell _ _ _ _ (by show g ≠ bb; omega)
  have key : ∀ i' r', i ≠ i' → R[i']? = some r' → Own 1 iv w' base 2 r'.1.1 r'.1.2.1 r'.1.2.2 r'.2 := fun i' r' hii hr' => (h.rows i' r' hr').kept hg (h.apart i' i r' r (Ne.symm hii) hr' hr)
  have keyA : ∀ i' r', i ≠ i' → R[i']? = some r' → (Value.slice r'.1.1 r'.1.2.1 r'.1.2.2).ownBlock = none ∨ (Value.slice r'.1.1 r'.1.2.1 r'.1.2.2).ownBlock ≠ (Value.slice A' n' c').ownBlock := fun i' r' hii hr' => by
    rcases hat with e | e
    · rw [e]; exact h.apart i' i r' r (Ne.symm hii) hr' hr
    · rw [e]
      cases e2 : (Value.slice r'.1.1 r'.1.2.1 r'.1.2.2).ownBlock with
      | none => exact .inl rfl
      | some b =>
        right
        intro e3
        injection e3 with e3
        have := ((h.rows i' r' hr').lt b e2).2
        omega
  refine ⟨⟨cur.setIfInBounds i (.slice A' n' c'), heap_setCell_same w' bb i cur _ _ ((hg.block bb h.lt (hne bb hbb)).trans h1), by simp [h2], fun i' r' hr' => ?_⟩, fun i' r' hr' => ?_, fun i1 i2 r1 r2 hii hr1 hr2 => ?_⟩
  · by_cases e : i = i'
    · subst e
      rw [List.getElem?_set_self hi] at hr'
      cases hr'
      simp [Array.getElem?_setIfInBounds]
      omega
    · rw [List.getElem?_set_ne e] at hr'
      rw [Array.getElem?_setIfInBounds_ne e]
      exact h3 i' r' hr'
  · by_cases e : i = i'
    · subst e
      rw [List.getElem?_set_self hi] at hr'
      cases hr'
      exact ho.keep fun g hgg => hkeep g (ho.lt g hgg).1
    · rw [List.getElem?_set_ne e] at hr'
      have hk := key i' r' e hr'
      exact hk.keep fun g hgg => hkeep g (hk.lt g hgg).1
  · by_cases e1 : i = i1
    · subst e1
      rw [List.getElem?_set_self hi] at hr1
      cases hr1
      rw [List.getElem?_set_ne hii] at hr2
      rcases keyA i2 r2 hii hr2 with h4 | h4
      · rw [h4]
        cases e2 : (Value.slice A' n' c').ownBlock with
        | none => exact .inl rfl
        | some b => right; simp
      · exact .inr (Ne.symm h4)
    · rw [List.getElem?_set_ne e1] at hr1
      by_cases e2 : i = i2
      · subst e2
        rw [List.getElem?_set_self hi] at hr2
        cases hr2
        exact keyA i1 r1 e1 hr1
      · rw [List.getElem?_set_ne e2] at hr2
        exact h.apart i1 i2 r1 r2 hii hr1 hr2
/-- What the finished rows read as. -/
theorem BackM.rowsI (h : BackM w bb base R) (hn : ∀ (i : Nat) (r : Hd × List Int), R[i]? = some r → r.2.length ≤ 1048576) : RowsI 1048576 w 0 w.heap.size (some ⟨bb, 0, none⟩) R.length R := by
  obtain ⟨cur, h1, h2, h3⟩ := h.outer
  refine ⟨⟨by rw [List.length_map], fun _ => ⟨bb, 0, rfl, Nat.zero_le _, h.lt, h.lt, fun k x hx j u hu => ?_⟩⟩, fun r hr => ?_⟩
  · rw [List.getElem?_map] at hx
    obtain ⟨r, hr, rfl⟩ := Option.map_eq_some_iff.1 hx
    have hj : j = 0 := by
      have := (List.getElem?_eq_some_iff.1 hu).1
      simp [sv] at this
      exact this
    subst hj
    simp [sv] at hu
    subst hu
    have := h.cell hr
    simpa using this
  · obtain ⟨i, hi⟩ := List.getElem?_of_mem hr
    have ho := h.rows i r hi
    refine ⟨((ho.sl flat_iv).more (Nat.zero_le _) (Nat.le_refl _)), ?_⟩
    have := hn i r hi
    rw [ho.len] at this
    exact this
end

end Go.Proofs.Ytbnneahjjcamlaa
