/-
  Words for slices of slices: the handles in one row, what each handle holds, all rows in different blocks. Conditions: rows of at most 1048576 elements.
-/
import Derived.Test.YtiaclddgllkgpaaGreatDoorAppend
namespace Go.Proofs.YtiaclddgllkgpaaGreatDoor
open Go.RowKit

/-- A slice's header. -/
abbrev Hd := Option Addr × Nat × Nat

/-- The block that a handle's elements lie in, as a span. -/
def spanOf (h : Hd) : Nat × Nat := if h.2.1 = 0 then (0, 0) else match h.1 with | some a => (a.block, a.block + 1) | none => (0, 0)
def offS (x y : Nat × Nat) : Prop := x.2 ≤ y.1 ∨ y.2 ≤ x.1
theorem offS.symm {x y : Nat × Nat} (h : offS x y) : offS y x := Or.symm h

theorem spanOf_zero (A : Option Addr) (c : Nat) : spanOf (A, 0, c) = (0, 0) := rfl
theorem spanOf_pos {n : Nat} (b off c : Nat) (hn : 0 < n) : spanOf (some ⟨b, off, none⟩, n, c) = (b, b + 1) := if_neg (by show ¬ n = 0; omega)

section
variable {α : Type} {size : Nat} {f : α → List Value} {w w' : World} {lo hi n : Nat} {A : Option Addr} {l : List α}

theorem Sl.tight (h : Sl size f w lo hi A n l) (c : Nat) : Sl size f w (spanOf (A, n, c)).1 (spanOf (A, n, c)).2 A n l := by
  rcases Nat.eq_zero_or_pos n with rfl | hn
  · exact ⟨h.1, fun h0 => absurd h0 (by omega)⟩
  · obtain ⟨b, off, rfl, g1, g2, g3, hc⟩ := h.at_ hn
    rw [spanOf_pos b off c hn]
    exact ⟨h.1, fun _ => ⟨b, off, rfl, Nat.le_refl _, Nat.lt_succ_self _, g3, hc⟩⟩

theorem Sl.span (h : Sl size f w lo hi A n l) (c : Nat) : spanOf (A, n, c) = (0, 0) ∨ (lo ≤ (spanOf (A, n, c)).1 ∧ (spanOf (A, n, c)).2 ≤ hi ∧ (spanOf (A, n, c)).2 ≤ w.heap.size) := by
  rcases Nat.eq_zero_or_pos n with rfl | hn
  · exact .inl rfl
  · obtain ⟨b, off, rfl, g1, g2, g3, hc⟩ := h.at_ hn
    rw [spanOf_pos b off c hn]
    exact .inr ⟨g1, g2, g3⟩

theorem Sl.loose {c : Nat} (h : Sl size f w (spanOf (A, n, c)).1 (spanOf (A, n, c)).2 A n l) (hs : spanOf (A, n, c) = (0, 0) ∨ (lo ≤ (spanOf (A, n, c)).1 ∧ (spanOf (A, n, c)).2 ≤ hi)) : Sl size f w lo hi A n l := by
  rcases Nat.eq_zero_or_pos n with rfl | hn
  · exact ⟨h.1, fun h0 => absurd h0 (by omega)⟩
  · obtain ⟨b, off, rfl, g1, g2, g3, hc⟩ := h.at_ hn
    rw [spanOf_pos b off c hn] at hs
    rcases hs with hs | hs
    · simp at hs
    · exact ⟨h.1, fun _ => ⟨b, off, rfl, hs.1, by have := hs.2; show b < hi; simp at this; omega, g3, hc⟩⟩

theorem Sl.keepB (h : Sl size f w lo hi A n l) (hs : w.heap.size ≤ w'.heap.size) (hk : ∀ b off, 0 < n → A = some ⟨b, off, none⟩ → lo ≤ b → b < w.heap.size → w'.heap[b]? = w.heap[b]?) : Sl size f w' lo hi A n l := by
  rcases Nat.eq_zero_or_pos n with rfl | hn
  · exact ⟨h.1, fun h0 => absurd h0 (by omega)⟩
  · have ht := h.tight 0
    obtain ⟨b, off, rfl, g1, g2, g3, _⟩ := h.at_ hn
    have e := spanOf_pos b off 0 hn
    exact (ht.keep hs fun b' h1 h2 h3 => by
      rw [e] at h1 h2
      simp at h1 h2
      have : b' = b := by omega
      subst this
      exact hk b' off hn rfl g1 h3).loose (c := 0) (.inr (by rw [e]; exact ⟨g1, g2⟩))

theorem Sl.onlyS (h : Sl size f w lo hi A n l) {x : Nat × Nat} (g : Only x.1 x.2 w w') {c : Nat} (hd : offS (spanOf (A, n, c)) x) : Sl size f w' lo hi A n l :=
  h.keepB g.size fun b off hn e _ hb => g.block b hb (by
    subst e
    rw [spanOf_pos b off c hn] at hd
    rcases hd with hd | hd
    · exact .inl (by simp at hd; omega)
    · exact .inr hd)
end

/-- The slice value `.slice A n c` holds handles, and each handle its own list. -/
structure Nest {α : Type} (size : Nat) (f : α → List Value) (w : World) (lo hi : Nat) (A : Option Addr) (n : Nat) (R : List (Hd × List α)) : Prop where
  outer : Sl 1 sv w lo hi A n (R.map (·.1))
  rows : ∀ r ∈ R, Sl size f w lo hi r.1.1 r.1.2.1 r.2 ∧ r.1.2.1 ≤ 1048576
  apart : R.Pairwise fun r s => offS (spanOf r.1) (spanOf s.1)
  away : ∀ r ∈ R, offS (spanOf (A, n, 0)) (spanOf r.1)

section
variable {α : Type} {size : Nat} {f : α → List Value} {w w' : World} {lo hi n : Nat} {A : Option Addr} {R : List (Hd × List α)}

theorem Nest.len (h : Nest size f w lo hi A n R) : R.length = n := by have := h.outer.len; rwa [List.length_map] at this
theorem Nest.nil_ : Nest size f w lo hi A 0 ([] : List (Hd × List α)) := ⟨Sl.nil_, fun _ h => (List.not_mem_nil h).elim, List.Pairwise.nil, fun _ h => (List.not_mem_nil h).elim⟩
theorem Nest.keep (h : Nest size f w lo hi A n R) (hs : w.heap.size ≤ w'.heap.size) (hk : ∀ b, lo ≤ b → b < hi → b < w.heap.size → w'.heap[b]? = w.heap[b]?) : Nest size f w' lo hi A n R :=
  ⟨h.outer.keep hs hk, fun r hr => ⟨(h.rows r hr).1.keep hs hk, (h.rows r hr).2⟩, h.apart, h.away⟩
theorem Nest.below {B : Nat} (h : Nest size f w lo hi A n R) (hb : Below B w w') (hB : hi ≤ B ∨ w.heap.size ≤ B) : Nest size f w' lo hi A n R :=
  h.keep hb.size fun b _ h2 h3 => hb.block b (by omega)
theorem Nest.only {lo' hi' : Nat} (h : Nest size f w lo hi A n R) (g : Only lo' hi' w w') (hd : hi ≤ lo' ∨ hi' ≤ lo) : Nest size f w' lo hi A n R :=
  h.keep g.size fun b h1 h2 h3 => g.block b h3 (by omega)
theorem Nest.more {lo' hi' : Nat} (h : Nest size f w lo hi A n R) (h1 : lo' ≤ lo) (h2 : hi ≤ hi') : Nest size f w lo' hi' A n R :=
  ⟨h.outer.more h1 h2, fun r hr => ⟨(h.rows r hr).1.more h1 h2, (h.rows r hr).2⟩, h.apart, h.away⟩
theorem Nest.top (h : Nest size f w lo hi A n R) : Nest size f w lo w.heap.size A n R :=
  ⟨h.outer.top, fun r hr => ⟨(h.rows r hr).1.top, (h.rows r hr).2⟩, h.apart, h.away⟩
theorem Nest.drewN (h : Nest size f w lo hi A n R) (k : Nat) : Nest size f (w.drewN k) lo hi A n R := h.keep (Nat.le_refl _) fun _ _ _ _ => rfl

theorem Nest.get (h : Nest size f w lo hi A n R) {k : Nat} (hk : k < n) :
    ∃ b off Ah nh ch s, A = some ⟨b, off, none⟩ ∧ lo ≤ b ∧ b < hi ∧ b < w.heap.size ∧ R[k]? = some ((Ah, nh, ch), s) ∧ w.cell? ⟨b, off + k, none⟩ = some (.slice Ah nh ch) ∧ w.frozen? ⟨b, off + k, none⟩ = false ∧ Sl size f w lo hi Ah nh s ∧ nh ≤ 1048576 := by
  obtain ⟨b, off, e, g1, g2, g3, hc⟩ := h.outer.at_ (by omega)
  have hkl : k < R.length := by rw [h.len]; exact hk
  obtain ⟨⟨⟨Ah, nh, ch⟩, s⟩, hr⟩ : ∃ r, R[k]? = some r := ⟨_, List.getElem?_eq_getElem hkl⟩
  have h0 := hc k (Ah, nh, ch) (by rw [List.getElem?_map, hr]; rfl) 0 _ rfl
  simp only [Nat.mul_one, Nat.add_zero] at h0
  have h1 := h.rows _ (List.mem_of_getElem? hr)
  exact ⟨b, off, Ah, nh, ch, s, e, g1, g2, g3, hr, h0.1, h0.2, h1.1, h1.2⟩

theorem pairwise_at {β : Type} {p : β → β → Prop} (hp : ∀ x y, p x y → p y x) {R : List β} (h : R.Pairwise p) {i j : Nat} {x y : β} (hi : R[i]? = some x) (hj : R[j]? = some y) (hne : i ≠ j) : p x y := by
  obtain ⟨hi', rfl⟩ := List.getElem?_eq_some_iff.1 hi
  obtain ⟨hj', rfl⟩ := List.getElem?_eq_some_iff.1 hj
  rcases Nat.lt_or_ge i j with hlt | hge
  · exact List.pairwise_iff_getElem.1 h i j hi' hj' hlt
  · exact hp _ _ (List.pairwise_iff_getElem.1 h j i hj' hi' (by omega))

/-- One row written anew, nothing else touched. -/
theorem Nest.put (h : Nest size f w lo hi A n R) {k : Nat} {Ah : Option Addr} {nh ch : Nat} {s s' : List α} (hr : R[k]? = some ((Ah, nh, ch), s))
    (g : Only (spanOf (Ah, nh, ch)).1 (spanOf (Ah, nh, ch)).2 w w') (hs : Sl size f w' (spanOf (Ah, nh, ch)).1 (spanOf (Ah, nh, ch)).2 Ah nh s') :
    Nest size f w' lo hi A n (R.set k ((Ah, nh, ch), s')) ∧ Only lo hi w w' := by
  have hk : k < R.length := (List.getElem?_eq_some_iff.1 hr).1
  have hm := List.mem_of_getElem? hr
  have e : (R.set k ((Ah, nh, ch), s')).map (·.1) = R.map (·.1) := by
    apply List.ext_getElem?
    intro i
    rw [List.getElem?_map, List.getElem?_map]
    by_cases hi : k = i
    · subst hi
      rw [List.getElem?_set_self hk, hr]
      rfl
    · rw [List.getElem?_set_ne hi]
  have h1 : Sl size f w lo hi Ah nh s ∧ nh ≤ 1048576 := h.rows _ hm
  refine ⟨⟨by rw [e]; exact h.outer.onlyS g (h.away _ hm), fun r hr' => ?_, ?_, fun r hr' => ?_⟩, ⟨g.os, g.tape, g.output, g.size, fun b hb ho => g.block b hb ?_⟩⟩
  · obtain ⟨i, hi⟩ := List.getElem?_of_mem hr'
    by_cases hki : k = i
    · subst hki
      rw [List.getElem?_set_self hk] at hi
      cases hi
      refine ⟨hs.loose (c := ch) ?_, h1.2⟩
      rcases h1.1.span ch with h2 | h2
      · exact .inl h2
      · exact .inr ⟨h2.1, h2.2.1⟩
    · rw [List.getElem?_set_ne hki] at hi
      have h2 := h.rows r (List.mem_of_getElem? hi)
      exact ⟨h2.1.onlyS g (pairwise_at (fun _ _ => offS.symm) h.apart hi hr (Ne.symm hki)), h2.2⟩
  · have h2 : (R.map (·.1)).Pairwise (fun x y => offS (spanOf x) (spanOf y)) := List.pairwise_map.2 h.apart
    rw [← e] at h2
    exact (List.pairwise_map (R := fun x y => offS (spanOf x) (spanOf y))).1 h2
  · obtain ⟨i, hi⟩ := List.getElem?_of_mem hr'
    by_cases hki : k = i
    · subst hki
      rw [List.getElem?_set_self hk] at hi
      cases hi
      have h9 := h.away _ hm
      exact h9
    · rw [List.getElem?_set_ne hki] at hi
      exact h.away _ (List.mem_of_getElem? hi)
  · rcases h1.1.span ch with h2 | h2
    · rw [h2]
      exact .inr (Nat.zero_le _)
    · omega
end

/-- The same, the outer row of the call's own: it may grow. -/
structure NestO {α : Type} (size : Nat) (f : α → List Value) (w : World) (base : Nat) (e : TypeId) (A : Option Addr) (n c : Nat) (R : List (Hd × List α)) : Prop where
  outer : Own 1 sv w base e A n c (R.map (·.1))
  rows : ∀ r ∈ R, Sl size f w base w.heap.size r.1.1 r.1.2.1 r.2 ∧ r.1.2.1 ≤ 1048576
  apart : R.Pairwise fun r s => offS (spanOf r.1) (spanOf s.1)
  away : ∀ r ∈ R, ∀ g, (Value.slice A n c).ownBlock = some g → offS (g, g + 1) (spanOf r.1)

section
variable {α : Type} {size : Nat} {f : α → List Value} {w w' : World} {base n c : Nat} {e : TypeId} {A : Option Addr} {R : List (Hd × List α)}

theorem NestO.len (h : NestO size f w base e A n c R) : R.length = n := by have := h.outer.len; rwa [List.length_map] at this
theorem NestO.nil_ (w : World) (base : Nat) (e : TypeId) : NestO size f w base e none 0 0 ([] : List (Hd × List α)) := ⟨Own.nil_ _ _ _, fun _ h => (List.not_mem_nil h).elim, List.Pairwise.nil, fun _ h => (List.not_mem_nil h).elim⟩
theorem NestO.made (w : World) {base : Nat} (e : TypeId) (hb : base ≤ w.heap.size) : NestO size f (w.alloc (.cells #[] e)) base e (some ⟨w.heap.size, 0, none⟩) 0 0 ([] : List (Hd × List α)) :=
  ⟨Own.made w e hb, fun _ h => (List.not_mem_nil h).elim, List.Pairwise.nil, fun _ h => (List.not_mem_nil h).elim⟩
theorem NestO.keep (h : NestO size f w base e A n c R) (hs : w.heap.size ≤ w'.heap.size) (hk : ∀ b, base ≤ b → b < w.heap.size → w'.heap[b]? = w.heap[b]?) : NestO size f w' base e A n c R :=
  ⟨h.outer.keep fun g hg => hk g (h.outer.lt g hg).1 (h.outer.lt g hg).2, fun r hr => ⟨((h.rows r hr).1.keep hs fun b h1 _ h3 => hk b h1 h3).more (Nat.le_refl _) hs, (h.rows r hr).2⟩, h.apart, h.away⟩
theorem NestO.below {B : Nat} (h : NestO size f w base e A n c R) (hb : Below B w w') (hB : w.heap.size ≤ B) : NestO size f w' base e A n c R := h.keep hb.size fun b _ h2 => hb.block b (by omega)

theorem NestO.nest (h : NestO size f w base e A n c R) : Nest size f w base w.heap.size A n R := by
  refine ⟨h.outer.sl flat_sv, h.rows, h.apart, fun r hr => ?_⟩
  rcases Nat.eq_zero_or_pos n with rfl | hn
  · rw [spanOf_zero]
    exact .inl (Nat.zero_le _)
  · obtain ⟨b, off, rfl, _⟩ := (h.outer.sl flat_sv).at_ hn
    rw [spanOf_pos b off 0 hn]
    exact h.away r hr b rfl

/-- One more row, which was made after the outer one. -/
theorem NestO.push {w0 w2 : World} (h : NestO size f w0 base e A n c R) (hb : Below w0.heap.size w0 w) {Ah : Option Addr} {nh ch : Nat} {s : List α} (x : Sl size f w w0.heap.size w.heap.size Ah nh s) (hn : nh ≤ 1048576)
    {A' : Option Addr} {c' : Nat} (hO : Own 1 sv w2 base e A' (n + 1) c' (R.map (·.1) ++ [(Ah, nh, ch)])) (hg : w.grownBy w2 (Value.slice A n c).ownBlock)
    (hne : (Value.slice A' (n + 1) c').ownBlock = (Value.slice A n c).ownBlock ∨ (Value.slice A' (n + 1) c').ownBlock = some w.heap.size) (hbase : base ≤ w0.heap.size) :
    NestO size f w2 base e A' (n + 1) c' (R ++ [((Ah, nh, ch), s)]) := by
  have hz := hb.size
  have hz2 := hg.size
  have hold : ∀ r ∈ R, spanOf r.1 = (0, 0) ∨ (base ≤ (spanOf r.1).1 ∧ (spanOf r.1).2 ≤ w0.heap.size) := fun r hr => by
    rcases (h.rows r hr).1.span r.1.2.2 with h1 | h1
    · exact .inl h1
    · exact .inr ⟨h1.1, h1.2.1⟩
  have hnew : spanOf (Ah, nh, ch) = (0, 0) ∨ (w0.heap.size ≤ (spanOf (Ah, nh, ch)).1 ∧ (spanOf (Ah, nh, ch)).2 ≤ w.heap.size) := by
    rcases x.span ch with h1 | h1
    · exact .inl h1
    · exact .inr ⟨h1.1, h1.2.1⟩
  refine ⟨by rw [List.map_append]; exact hO, fun r hr => ?_, List.pairwise_append.2 ⟨h.apart, List.pairwise_singleton _ _, fun r hr q hq => ?_⟩, fun r hr g hgq => ?_⟩
  · rcases List.mem_append.1 hr with hr | hr
    · have h1 := h.rows r hr
      refine ⟨(((h1.1.below hb (.inr (Nat.le_refl _))).more (Nat.le_refl _) (by omega : w0.heap.size ≤ w2.heap.size)).keepB hz2 fun b off hp e1 _ hb1 => hg.block b hb1 fun e2 => ?_), h1.2⟩
      have h2 := h.away r hr b e2.symm
      have h3 : spanOf r.1 = (b, b + 1) := by
        have h4 := spanOf_pos b off r.1.2.2 hp
        rw [← e1] at h4
        exact h4
      rw [h3] at h2
      rcases h2 with h2 | h2 <;> simp at h2 <;> omega
    · rw [List.mem_singleton.1 hr]
      refine ⟨((x.more hbase (by omega : w.heap.size ≤ w2.heap.size)).keepB hz2 fun b off hp e1 _ hb1 => hg.block b hb1 fun e2 => ?_), hn⟩
      have h2 := (h.outer.lt b e2.symm).2
      have h3 := spanOf_pos b off ch hp
      rw [← e1] at h3
      rw [h3] at hnew
      simp at hnew
      omega
  · rw [List.mem_singleton.1 hq]
    rcases hold r hr with h1 | h1
    · rw [h1]; exact .inl (Nat.zero_le _)
    · rcases hnew with h2 | h2
      · rw [h2]; exact .inr (Nat.zero_le _)
      · exact .inl (by show (spanOf r.1).2 ≤ (spanOf (Ah, nh, ch)).1; omega)
  · rcases hne with hne | hne
    · rw [hne] at hgq
      rcases List.mem_append.1 hr with hr | hr
      · exact h.away r hr g hgq
      · rw [List.mem_singleton.1 hr]
        have h2 := (h.outer.lt g hgq).2
        rcases hnew with h3 | h3
        · rw [h3]; exact .inr (Nat.zero_le _)
        · exact .inl (by show g + 1 ≤ (spanOf (Ah, nh, ch)).1; omega)
    · rw [hne] at hgq
      injection hgq with hgq
      subst hgq
      rcases List.mem_append.1 hr with hr | hr
      · rcases hold r hr with h1 | h1
        · rw [h1]; exact .inr (Nat.zero_le _)
        · exact .inr (by show (spanOf r.1).2 ≤ w.heap.size; omega)
      · rw [List.mem_singleton.1 hr]
        rcases hnew with h3 | h3
        · rw [h3]; exact .inr (Nat.zero_le _)
        · exact .inr h3.2
end

/-- How many elements the first k handles have. -/
def preH (H : List Hd) (k : Nat) : Nat := ((H.take k).map (·.2.1)).sum
theorem preH_zero (H : List Hd) : preH H 0 = 0 := rfl
theorem preH_succ {H : List Hd} {k : Nat} {A : Option Addr} {n c : Nat} (h : H[k]? = some (A, n, c)) : preH H (k + 1) = preH H k + n := by
  unfold preH
  rw [List.take_add_one, h]
  simp
theorem preH_mono (H : List Hd) {k n : Nat} (h : k ≤ n) : preH H k ≤ preH H n := by
  induction n with
  | zero => have : k = 0 := by omega
            subst this; exact Nat.le_refl _
  | succ n ih =>
    rcases Nat.lt_or_ge k (n + 1) with h1 | h1
    · refine Nat.le_trans (ih (by omega)) ?_
      unfold preH
      rw [List.take_add_one, List.map_append, List.sum_append]
      omega
    · have : k = n + 1 := by omega
      subst this
      exact Nat.le_refl _
theorem preH_le (H : List Hd) (b : Nat) (h : ∀ x ∈ H, x.2.1 ≤ b) (k : Nat) : preH H k ≤ k * b := by
  induction k with
  | zero => exact Nat.zero_le _
  | succ k ih =>
    unfold preH at ih ⊢
    rw [List.take_add_one, List.map_append, List.sum_append, Nat.add_mul]
    cases hk : H[k]? with
    | none => simp only [Option.toList_none, List.map_nil, List.sum_nil]; omega
    | some x =>
      have := h x (List.mem_of_getElem? hk)
      simp only [Option.toList_some, List.map_cons, List.map_nil, List.sum_cons, List.sum_nil]
      omega
/-- The first k rows hold their marks. -/
def MarkedK {α : Type} (mk : Int → α) (step : Nat) (m : Int) (k : Nat) (R : List (Hd × List α)) : Prop :=
  ∀ (i : Nat) (r : Hd × List α), i < k → R[i]? = some r → ∀ j : Nat, j < r.1.2.1 → r.2[j]? = some (mk (m + step * (preH (R.map (·.1)) i + j : Nat)))
theorem MarkedK.zero {α : Type} (mk : Int → α) (step : Nat) (m : Int) (R : List (Hd × List α)) : MarkedK mk step m 0 R := fun i r hi => absurd hi (by omega)
theorem handles_set {α : Type} {R : List (Hd × List α)} {k : Nat} {h : Hd} {s s' : List α} (hr : R[k]? = some (h, s)) : (R.set k (h, s')).map (·.1) = R.map (·.1) := by
  apply List.ext_getElem?
  intro i
  rw [List.getElem?_map, List.getElem?_map]
  by_cases hi : k = i
  · subst hi
    rw [List.getElem?_set_self (List.getElem?_eq_some_iff.1 hr).1, hr]
    rfl
  · rw [List.getElem?_set_ne hi]
theorem MarkedK.step {α : Type} {mk : Int → α} {step : Nat} {m : Int} {k : Nat} {R : List (Hd × List α)} (h : MarkedK mk step m k R) {Ah : Option Addr} {nh ch : Nat} {s s' : List α} (hr : R[k]? = some ((Ah, nh, ch), s))
    (hs : ∀ j : Nat, j < nh → s'[j]? = some (mk (m + step * (preH (R.map (·.1)) k + j : Nat)))) : MarkedK mk step m (k + 1) (R.set k ((Ah, nh, ch), s')) := by
  intro i r hi hr' j hj
  rw [handles_set hr]
  by_cases hki : k = i
  · subst hki
    rw [List.getElem?_set_self (List.getElem?_eq_some_iff.1 hr).1] at hr'
    cases hr'
    exact hs j hj
  · rw [List.getElem?_set_ne hki] at hr'
    exact h i r (by omega) hr' j hj

end Go.Proofs.YtiaclddgllkgpaaGreatDoor
