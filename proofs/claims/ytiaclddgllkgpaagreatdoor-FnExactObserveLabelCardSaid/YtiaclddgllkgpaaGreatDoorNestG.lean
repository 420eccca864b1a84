/-
  Words for slices whose elements hold a slice each beside other cells (hd tells an element's handle). Conditions: rows of at most 1048576 elements.
-/
import Derived.Test.YtiaclddgllkgpaaGreatDoorNest
namespace Go.Proofs.YtiaclddgllkgpaaGreatDoor
open Go.RowKit

theorem Only.trans {lo hi : Nat} {a b c : World} (h : Only lo hi a b) (g : Only lo hi b c) : Only lo hi a c :=
  ⟨g.os.trans h.os, g.tape.trans h.tape, g.output.trans h.output, Nat.le_trans h.size g.size, fun k hb hc => (g.block k (Nat.lt_of_lt_of_le hb h.size) hc).trans (h.block k hb hc)⟩
theorem Only.more {lo hi lo' hi' : Nat} {a b : World} (h : Only lo hi a b) (h1 : lo' ≤ lo) (h2 : hi ≤ hi') : Only lo' hi' a b :=
  ⟨h.os, h.tape, h.output, h.size, fun k hb hc => h.block k hb (by omega)⟩
/-- The words for a span from within a larger one. -/
theorem Only.span {lo hi : Nat} {a b : World} {x : Nat × Nat} (h : Only x.1 x.2 a b) (hs : x = (0, 0) ∨ (lo ≤ x.1 ∧ x.2 ≤ hi)) : Only lo hi a b :=
  ⟨h.os, h.tape, h.output, h.size, fun k hb hc => h.block k hb (by
    rcases hs with hs | hs
    · rw [hs]; exact .inr (Nat.zero_le _)
    · omega)⟩

/-- A list of elements, each with what its handle holds; all of it in [lo, hi). Nothing is said of different rows. -/
structure RowsG {β α : Type} (hd : β → Hd) (osz : Nat) (g : β → List Value) (size : Nat) (f : α → List Value) (most : Nat) (w : World) (lo hi : Nat) (A : Option Addr) (n : Nat) (R : List (β × List α)) : Prop where
  outer : Sl osz g w lo hi A n (R.map (·.1))
  rows : ∀ r ∈ R, Sl size f w lo hi (hd r.1).1 (hd r.1).2.1 r.2 ∧ (hd r.1).2.1 ≤ most

/-- The same, all rows in different blocks. -/
structure NestG {β α : Type} (hd : β → Hd) (osz : Nat) (g : β → List Value) (size : Nat) (f : α → List Value) (w : World) (lo hi : Nat) (A : Option Addr) (n : Nat) (R : List (β × List α)) : Prop where
  all : RowsG hd osz g size f 1048576 w lo hi A n R
  apart : R.Pairwise fun r s => offS (spanOf (hd r.1)) (spanOf (hd s.1))
  away : ∀ r ∈ R, offS (spanOf (A, n, 0)) (spanOf (hd r.1))

section
variable {β α : Type} {hd : β → Hd} {osz : Nat} {g : β → List Value} {size most : Nat} {f : α → List Value} {w w' : World} {lo hi n : Nat} {A : Option Addr} {R : List (β × List α)}

theorem RowsG.len (h : RowsG hd osz g size f most w lo hi A n R) : R.length = n := by have := h.outer.len; rwa [List.length_map] at this
theorem RowsG.nil_ : RowsG hd osz g size f most w lo hi A 0 ([] : List (β × List α)) := ⟨Sl.nil_, fun _ h => (List.not_mem_nil h).elim⟩
theorem RowsG.keep (h : RowsG hd osz g size f most w lo hi A n R) (hs : w.heap.size ≤ w'.heap.size) (hk : ∀ b, lo ≤ b → b < hi → b < w.heap.size → w'.heap[b]? = w.heap[b]?) : RowsG hd osz g size f most w' lo hi A n R :=
  ⟨h.outer.keep hs hk, fun r hr => ⟨(h.rows r hr).1.keep hs hk, (h.rows r hr).2⟩⟩
theorem RowsG.below {B : Nat} (h : RowsG hd osz g size f most w lo hi A n R) (hb : Below B w w') (hB : hi ≤ B ∨ w.heap.size ≤ B) : RowsG hd osz g size f most w' lo hi A n R :=
  h.keep hb.size fun b _ h2 h3 => hb.block b (by omega)
theorem RowsG.only {lo' hi' : Nat} (h : RowsG hd osz g size f most w lo hi A n R) (o : Only lo' hi' w w') (hd' : hi ≤ lo' ∨ hi' ≤ lo) : RowsG hd osz g size f most w' lo hi A n R :=
  h.keep o.size fun b h1 h2 h3 => o.block b h3 (by omega)
theorem RowsG.more {lo' hi' : Nat} (h : RowsG hd osz g size f most w lo hi A n R) (h1 : lo' ≤ lo) (h2 : hi ≤ hi') : RowsG hd osz g size f most w lo' hi' A n R :=
  ⟨h.outer.more h1 h2, fun r hr => ⟨(h.rows r hr).1.more h1 h2, (h.rows r hr).2⟩⟩
theorem RowsG.top (h : RowsG hd osz g size f most w lo hi A n R) : RowsG hd osz g size f most w lo w.heap.size A n R := ⟨h.outer.top, fun r hr => ⟨(h.rows r hr).1.top, (h.rows r hr).2⟩⟩
theorem RowsG.upto {m : Nat} (h : RowsG hd osz g size f most w lo hi A n R) (hm : ∀ r ∈ R, (hd r.1).2.1 ≤ m) : RowsG hd osz g size f m w lo hi A n R := ⟨h.outer, fun r hr => ⟨(h.rows r hr).1, hm r hr⟩⟩

/-- Element k. -/
theorem RowsG.get (h : RowsG hd osz g size f most w lo hi A n R) {k : Nat} (hk : k < n) :
    ∃ b off x s, A = some ⟨b, off, none⟩ ∧ lo ≤ b ∧ b < hi ∧ b < w.heap.size ∧ R[k]? = some (x, s) ∧
      (∀ (j : Nat) (u : Value), (g x)[j]? = some u → w.cell? ⟨b, off + (k * osz + j), none⟩ = some u ∧ w.frozen? ⟨b, off + (k * osz + j), none⟩ = false) ∧ Sl size f w lo hi (hd x).1 (hd x).2.1 s ∧ (hd x).2.1 ≤ most := by
  obtain ⟨b, off, e, g1, g2, g3, hc⟩ := h.outer.at_ (by omega)
  have hkl : k < R.length := by rw [h.len]; exact hk
  obtain ⟨⟨x, s⟩, hr⟩ : ∃ r, R[k]? = some r := ⟨_, List.getElem?_eq_getElem hkl⟩
  have h1 := h.rows _ (List.mem_of_getElem? hr)
  exact ⟨b, off, x, s, e, g1, g2, g3, hr, hc k x (by rw [List.getElem?_map, hr]; rfl), h1.1, h1.2⟩

theorem NestG.len (h : NestG hd osz g size f w lo hi A n R) : R.length = n := h.all.len
theorem NestG.nil_ : NestG hd osz g size f w lo hi A 0 ([] : List (β × List α)) := ⟨RowsG.nil_, List.Pairwise.nil, fun _ h => (List.not_mem_nil h).elim⟩
theorem NestG.keep (h : NestG hd osz g size f w lo hi A n R) (hs : w.heap.size ≤ w'.heap.size) (hk : ∀ b, lo ≤ b → b < hi → b < w.heap.size → w'.heap[b]? = w.heap[b]?) : NestG hd osz g size f w' lo hi A n R := ⟨h.all.keep hs hk, h.apart, h.away⟩
theorem NestG.below {B : Nat} (h : NestG hd osz g size f w lo hi A n R) (hb : Below B w w') (hB : hi ≤ B ∨ w.heap.size ≤ B) : NestG hd osz g size f w' lo hi A n R := ⟨h.all.below hb hB, h.apart, h.away⟩
theorem NestG.only {lo' hi' : Nat} (h : NestG hd osz g size f w lo hi A n R) (o : Only lo' hi' w w') (hd' : hi ≤ lo' ∨ hi' ≤ lo) : NestG hd osz g size f w' lo hi A n R := ⟨h.all.only o hd', h.apart, h.away⟩
theorem NestG.more {lo' hi' : Nat} (h : NestG hd osz g size f w lo hi A n R) (h1 : lo' ≤ lo) (h2 : hi ≤ hi') : NestG hd osz g size f w lo' hi' A n R := ⟨h.all.more h1 h2, h.apart, h.away⟩
theorem NestG.top (h : NestG hd osz g size f w lo hi A n R) : NestG hd osz g size f w lo w.heap.size A n R := ⟨h.all.top, h.apart, h.away⟩

/-- What element k's handle holds written anew, nothing else touched. -/
theorem NestG.put (h : NestG hd osz g size f w lo hi A n R) {k : Nat} {x : β} {s s' : List α} (hr : R[k]? = some (x, s))
    (o : Only (spanOf (hd x)).1 (spanOf (hd x)).2 w w') (hs : Sl size f w' (spanOf (hd x)).1 (spanOf (hd x)).2 (hd x).1 (hd x).2.1 s') :
    NestG hd osz g size f w' lo hi A n (R.set k (x, s')) ∧ Only lo hi w w' := by
  have hk : k < R.length := (List.getElem?_eq_some_iff.1 hr).1
  have hm := List.mem_of_getElem? hr
  have e : (R.set k (x, s')).map (·.1) = R.map (·.1) := by
    apply List.ext_getElem?
    intro i
    rw [List.getElem?_map, List.getElem?_map]
    by_cases hi : k = i
    · subst hi
      rw [List.getElem?_set_self hk, hr]
      rfl
    · rw [List.getElem?_set_ne hi]
  have h1 : Sl size f w lo hi (hd x).1 (hd x).2.1 s ∧ (hd x).2.1 ≤ 1048576 := h.all.rows _ hm
  have hsp : spanOf (hd x) = (0, 0) ∨ (lo ≤ (spanOf (hd x)).1 ∧ (spanOf (hd x)).2 ≤ hi ∧ (spanOf (hd x)).2 ≤ w.heap.size) := h1.1.span (hd x).2.2
  refine ⟨⟨⟨by rw [e]; exact h.all.outer.onlyS (c := 0) o (h.away _ hm), fun r hr' => ?_⟩, ?_, fun r hr' => ?_⟩, o.span (by rcases hsp with h2 | h2; exact .inl h2; exact .inr ⟨h2.1, h2.2.1⟩)⟩
  · obtain ⟨i, hi⟩ := List.getElem?_of_mem hr'
    by_cases hki : k = i
    · subst hki
      rw [List.getElem?_set_self hk] at hi
      cases hi
      refine ⟨Sl.loose (c := (hd x).2.2) hs ?_, h1.2⟩
      rcases hsp with h2 | h2
      · exact .inl h2
      · exact .inr ⟨h2.1, h2.2.1⟩
    · rw [List.getElem?_set_ne hki] at hi
      have h2 := h.all.rows r (List.mem_of_getElem? hi)
      exact ⟨h2.1.onlyS (c := (hd r.1).2.2) o (pairwise_at (fun _ _ => offS.symm) h.apart hi hr (Ne.symm hki)), h2.2⟩
  · have h2 : (R.map (·.1)).Pairwise (fun x y => offS (spanOf (hd x)) (spanOf (hd y))) := List.pairwise_map.2 h.apart
    rw [← e] at h2
    exact (List.pairwise_map (R := fun x y => offS (spanOf (hd x)) (spanOf (hd y)))).1 h2
  · obtain ⟨i, hi⟩ := List.getElem?_of_mem hr'
    by_cases hki : k = i
    · subst hki
      rw [List.getElem?_set_self hk] at hi
      cases hi
      have h9 := h.away _ hm
      exact h9
    · rw [List.getElem?_set_ne hki] at hi
      exact h.away _ (List.mem_of_getElem? hi)

/-- Element k's own cells written anew, its handle as it was. -/
theorem NestG.putOuter (h : NestG hd osz g size f w lo hi A n R) {k : Nat} {x x' : β} {s : List α} (hr : R[k]? = some (x, s)) (hx : hd x' = hd x)
    (o : Only (spanOf (A, n, 0)).1 (spanOf (A, n, 0)).2 w w') (hs : Sl osz g w' (spanOf (A, n, 0)).1 (spanOf (A, n, 0)).2 A n ((R.map (·.1)).set k x')) :
    NestG hd osz g size f w' lo hi A n (R.set k (x', s)) ∧ Only lo hi w w' := by
  have hk : k < R.length := (List.getElem?_eq_some_iff.1 hr).1
  have hm := List.mem_of_getElem? hr
  have hsp := h.all.outer.span 0
  have hsp' : spanOf (A, n, 0) = (0, 0) ∨ (lo ≤ (spanOf (A, n, 0)).1 ∧ (spanOf (A, n, 0)).2 ≤ hi) := by rcases hsp with h2 | h2; exact .inl h2; exact .inr ⟨h2.1, h2.2.1⟩
  have e : (R.set k (x', s)).map (·.1) = (R.map (·.1)).set k x' := by rw [List.map_set]
  have back : ∀ (i : Nat) (r : β × List α), (R.set k (x', s))[i]? = some r → ∃ q : β × List α, R[i]? = some q ∧ hd r.1 = hd q.1 ∧ r.2 = q.2 := fun i r hi => by
    by_cases hki : k = i
    · subst hki
      rw [List.getElem?_set_self hk] at hi
      cases hi
      exact ⟨_, hr, hx, rfl⟩
    · rw [List.getElem?_set_ne hki] at hi
      exact ⟨_, hi, rfl, rfl⟩
  refine ⟨⟨⟨by rw [e]; exact Sl.loose (c := 0) hs hsp', fun r hr' => ?_⟩, ?_, fun r hr' => ?_⟩, o.span hsp'⟩
  · obtain ⟨i, hi⟩ := List.getElem?_of_mem hr'
    obtain ⟨q, hq, e1, e2⟩ := back i r hi
    have hqm := List.mem_of_getElem? hq
    have h2 := h.all.rows q hqm
    rw [e1, e2]
    exact ⟨h2.1.onlyS (c := (hd q.1).2.2) o (h.away q hqm).symm, h2.2⟩
  · rw [List.pairwise_iff_getElem]
    intro i j hi hj hij
    obtain ⟨q, hq, e1, _⟩ := back i _ (List.getElem?_eq_getElem hi)
    obtain ⟨q', hq', e1', _⟩ := back j _ (List.getElem?_eq_getElem hj)
    rw [e1, e1']
    exact pairwise_at (p := fun r s : β × List α => offS (spanOf (hd r.1)) (spanOf (hd s.1))) (fun _ _ => offS.symm) h.apart hq hq' (by omega)
  · obtain ⟨i, hi⟩ := List.getElem?_of_mem hr'
    obtain ⟨q, hq, e1, _⟩ := back i r hi
    rw [e1]
    exact h.away q (List.mem_of_getElem? hq)
end

/-- A row of elements being made in block B, the first k laid, each handle's row made after it. -/
structure NestF {β α : Type} (hd : β → Hd) (osz : Nat) (g : β → List Value) (size : Nat) (f : α → List Value) (w : World) (B : Nat) (t : TypeId) (n k : Nat) (R : List (β × List α)) : Prop where
  len : R.length = k
  fill : Fill osz g w B t n k (R.map (·.1))
  rows : ∀ r ∈ R, Sl size f w (B + 1) w.heap.size (hd r.1).1 (hd r.1).2.1 r.2 ∧ (hd r.1).2.1 ≤ 1048576
  apart : R.Pairwise fun r s => offS (spanOf (hd r.1)) (spanOf (hd s.1))

section
variable {β α : Type} {hd : β → Hd} {osz : Nat} {g : β → List Value} {size : Nat} {f : α → List Value} {w w1 w2 : World} {B n k : Nat} {t : TypeId} {R : List (β × List α)}

theorem NestF.start (w : World) (t : TypeId) (cur : Array Value) (n : Nat) (hs : cur.size = n * osz) : NestF hd osz g size f (w.alloc (.cells cur t)) w.heap.size t n 0 ([] : List (β × List α)) :=
  ⟨rfl, Fill.start w t cur n hs, fun _ h => (List.not_mem_nil h).elim, List.Pairwise.nil⟩

/-- The fill does not look behind k. -/
theorem Fill.of_take {α : Type} {size : Nat} {f : α → List Value} {l l' : List α} (h : Fill size f w B t n k l) (e : l'.take k = l.take k) : Fill size f w B t n k l' := by
  obtain ⟨cur, hc, hs, hx⟩ := h
  refine ⟨cur, hc, hs, fun i x hi hl => hx i x hi ?_⟩
  have h1 := congrArg (·[i]?) e
  simp only [List.getElem?_take, if_pos hi] at h1
  rw [← h1]
  exact hl

/-- A row was made: the new element's. -/
theorem NestF.keep (h : NestF hd osz g size f w B t n k R) (hb : Below w.heap.size w w1) : NestF hd osz g size f w1 B t n k R :=
  ⟨h.len, h.fill.keep (hb.block _ h.fill.lt), fun r hr => ⟨((h.rows r hr).1.below hb (.inr (Nat.le_refl _))).more (Nat.le_refl _) hb.size, (h.rows r hr).2⟩, h.apart⟩

/-- One more element, whose row was made just now (between w and w1), laid in B. -/
theorem NestF.push (h : NestF hd osz g size f w B t n k R) (hb : Below w.heap.size w w1) {x : β} {s : List α} (hx : Sl size f w1 w.heap.size w1.heap.size (hd x).1 (hd x).2.1 s) (hn : (hd x).2.1 ≤ 1048576)
    (ho : Only B (B + 1) w1 w2) (hf : Fill osz g w2 B t n (k + 1) ((R.map (·.1)) ++ [x])) : NestF hd osz g size f w2 B t n (k + 1) (R ++ [(x, s)]) := by
  have hlt := h.fill.lt
  have hz := hb.size
  have hz2 := ho.size
  have h1 := h.keep hb
  refine ⟨by rw [List.length_append, h.len]; rfl, by rw [List.map_append]; exact hf, fun r hr => ?_, List.pairwise_append.2 ⟨h.apart, List.pairwise_singleton _ _, fun r hr q hq => ?_⟩⟩
  · rcases List.mem_append.1 hr with hr | hr
    · have h2 := h1.rows r hr
      exact ⟨(h2.1.only ho (.inr (Nat.le_refl _))).more (Nat.le_refl _) hz2, h2.2⟩
    · rw [List.mem_singleton.1 hr]
      exact ⟨(hx.only ho (.inr (by omega))).more (by omega) hz2, hn⟩
  · rw [List.mem_singleton.1 hq]
    have h2 := (h.rows r hr).1.span (hd r.1).2.2
    have h3 := hx.span (hd x).2.2
    show offS (spanOf (hd r.1)) (spanOf (hd x))
    rcases h2 with h2 | h2
    · have h2 : spanOf (hd r.1) = (0, 0) := h2
      rw [h2]; exact .inl (Nat.zero_le _)
    · rcases h3 with h3 | h3
      · have h3 : spanOf (hd x) = (0, 0) := h3
        rw [h3]; exact .inr (Nat.zero_le _)
      · exact .inl (Nat.le_trans h2.2.2 h3.1)

theorem NestF.done (h : NestF hd osz g size f w B t n n R) : NestG hd osz g size f w B w.heap.size (some ⟨B, 0, none⟩) n R := by
  have hlt := h.fill.lt
  refine ⟨⟨h.fill.done (by rw [List.length_map, h.len]) (Nat.le_refl _) hlt, fun r hr => ⟨(h.rows r hr).1.more (Nat.le_succ _) (Nat.le_refl _), (h.rows r hr).2⟩⟩, h.apart, fun r hr => ?_⟩
  rcases Nat.eq_zero_or_pos n with rfl | hn
  · rw [spanOf_zero]; exact .inl (Nat.zero_le _)
  · rw [spanOf_pos B 0 0 hn]
    have h2 := (h.rows r hr).1.span (hd r.1).2.2
    rcases h2 with h2 | h2
    · have h2 : spanOf (hd r.1) = (0, 0) := h2
      rw [h2]; exact .inr (Nat.zero_le _)
    · exact .inl h2.1
end

/-- How many elements the first k rows have. -/
def preG {β α : Type} (hd : β → Hd) (R : List (β × List α)) (k : Nat) : Nat := ((R.take k).map fun r => (hd r.1).2.1).sum
theorem preG_zero {β α : Type} (hd : β → Hd) (R : List (β × List α)) : preG hd R 0 = 0 := rfl
theorem preG_succ {β α : Type} {hd : β → Hd} {R : List (β × List α)} {k : Nat} {x : β} {s : List α} (h : R[k]? = some (x, s)) : preG hd R (k + 1) = preG hd R k + (hd x).2.1 := by
  unfold preG
  rw [List.take_add_one, h]
  simp
theorem preG_mono {β α : Type} (hd : β → Hd) (R : List (β × List α)) {k n : Nat} (h : k ≤ n) : preG hd R k ≤ preG hd R n := by
  induction n with
  | zero => have : k = 0 := by omega
            subst this; exact Nat.le_refl _
  | succ n ih =>
    rcases Nat.lt_or_ge k (n + 1) with h1 | h1
    · refine Nat.le_trans (ih (by omega)) ?_
      unfold preG
      rw [List.take_add_one, List.map_append, List.sum_append]
      omega
    · have : k = n + 1 := by omega
      subst this
      exact Nat.le_refl _
theorem preG_le {β α : Type} (hd : β → Hd) (R : List (β × List α)) {k : Nat} {x : β} {s : List α} (h : R[k]? = some (x, s)) {n : Nat} (hk : k < n) : (hd x).2.1 ≤ preG hd R n := by
  have h1 := preG_mono hd R (show k + 1 ≤ n by omega)
  rw [preG_succ h] at h1
  omega
theorem preG_all {β α : Type} {hd : β → Hd} {R : List (β × List α)} {n m : Nat} (hn : R.length = n) (h : preG hd R n ≤ m) : ∀ r ∈ R, (hd r.1).2.1 ≤ m := fun r hr => by
  obtain ⟨i, hi⟩ := List.getElem?_of_mem hr
  have h1 := preG_le hd R (x := r.1) (s := r.2) hi (n := n) (by rw [← hn]; exact (List.getElem?_eq_some_iff.1 hi).1)
  omega

end Go.Proofs.YtiaclddgllkgpaaGreatDoor
