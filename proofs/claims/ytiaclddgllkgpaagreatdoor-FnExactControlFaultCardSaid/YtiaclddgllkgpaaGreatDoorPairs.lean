/-
  Pairs of a plant's state and a system's state, found breadth first, plain. Conditions: none.
-/
import Derived.Test.YtiaclddgllkgpaaGreatDoorPrevS
namespace Go.Proofs.YtiaclddgllkgpaaGreatDoor
open Go.ChangeShapes Go.WideShapes Go.ChangeAt Go.RowKit Go.Sort
set_option linter.unusedVariables false

abbrev PR := Int × Int
/-- A found pair with the labels that lead to it. -/
abbrev PQ := PR × List ByteArray
def addP (R : List PQ) (q : PR) (path : List ByteArray) : List PQ := if q ∈ R.map (·.1) then R else R ++ [(q, path)]
def expE (p s : DL) (y : Int) (path : List ByteArray) (R : List PQ) (e : Ed) : List PQ :=
  if aloOk s y (labE p.2.2.1 e) = true then addP R (e.2.2, aloTo s y (labE p.2.2.1 e)) (path ++ [labE p.2.2.1 e]) else R
def expL (p s : DL) (q : PQ) (R : List PQ) (l : List Ed) : List PQ := l.foldl (expE p s q.1.2 q.2) R
def expP (p s : DL) (R : List PQ) (q : PQ) : List PQ := expL p s q R (outE p.2.2.2 q.1.1)
def goR (p s : DL) : Nat → Nat → List PQ → List PQ
  | 0, _, R => R
  | f + 1, k, R => match R[k]? with | some q => goR p s f (k + 1) (expP p s R q) | none => R
def startR (p s : DL) : List PQ := [((p.2.1, s.2.1), [])]
def allR (p s : DL) : List PQ := goR p s 1601 0 (startR p s)

/-- All pairs differ and lie in the range. -/
def GoodR (p s : DL) (R : List PQ) : Prop := (R.map (·.1)).Nodup ∧ ∀ q ∈ R, (0 ≤ q.1.1 ∧ q.1.1 < p.1) ∧ (0 ≤ q.1.2 ∧ q.1.2 < s.1)
theorem expL_succ {p s : DL} {q : PQ} {R : List PQ} {l : List Ed} {k : Nat} {e : Ed} (hx : l[k]? = some e) : expL p s q R (l.take (k + 1)) = expE p s q.1.2 q.2 (expL p s q R (l.take k)) e := by
  unfold expL
  rw [List.take_add_one, hx, List.foldl_append]
  rfl
theorem addP_pre (R : List PQ) (q : PR) (path : List ByteArray) : R <+: addP R q path := by
  unfold addP
  split
  · exact List.prefix_rfl
  · exact List.prefix_append _ _
theorem expE_pre (p s : DL) (y : Int) (path : List ByteArray) (R : List PQ) (e : Ed) : R <+: expE p s y path R e := by
  unfold expE
  split
  · exact addP_pre _ _ _
  · exact List.prefix_rfl
theorem expL_pre (p s : DL) (q : PQ) : ∀ (l : List Ed) (R : List PQ), R <+: expL p s q R l
  | [], R => List.prefix_rfl
  | e :: l, R => (expE_pre p s q.1.2 q.2 R e).trans (expL_pre p s q l (expE p s q.1.2 q.2 R e))
theorem goR_pre (p s : DL) : ∀ (f k : Nat) (R : List PQ), R <+: goR p s f k R
  | 0, _, _ => List.prefix_rfl
  | f + 1, k, R => by
    unfold goR
    split
    · exact (expL_pre p s _ _ R).trans (goR_pre p s f (k + 1) _)
    · exact List.prefix_rfl
theorem GoodR.add {p s : DL} {R : List PQ} (h : GoodR p s R) {q : PR} (path : List ByteArray) (hq : (0 ≤ q.1 ∧ q.1 < p.1) ∧ (0 ≤ q.2 ∧ q.2 < s.1)) : GoodR p s (addP R q path) := by
  unfold addP
  split
  · exact h
  · rename_i hn
    refine ⟨?_, fun r hr => ?_⟩
    · rw [List.map_append]
      refine List.nodup_append.2 ⟨h.1, by simp, ?_⟩
      intro a ha b hb e
      simp at hb
      subst e hb
      exact hn ha
    · rcases List.mem_append.1 hr with h1 | h1
      · exact h.2 r h1
      · simp at h1
        subst h1
        exact hq
theorem GoodR.exp {p s : DL} (hp : detV p = true) (hs : detV s = true) {y : Int} (hy : 0 ≤ y ∧ y < s.1) {path : List ByteArray} {R : List PQ} (h : GoodR p s R) {e : Ed} (he : e ∈ p.2.2.2) : GoodR p s (expE p s y path R e) := by
  obtain ⟨pn, pi, ls, es⟩ := p
  obtain ⟨sn, si, ms, fs⟩ := s
  unfold expE
  split
  · rename_i hok
    obtain ⟨k, hk⟩ := List.getElem?_of_mem he
    obtain ⟨f, lb, tg⟩ := e
    have h1 := (edge_of (det_ltsA hp) hk).2.1
    refine h.add _ ⟨?_, alo_range (det_ltsA hs) hy.1 hy.2 hok⟩
    dsimp only at *
    omega
  · exact h

theorem GoodR.expL {p s : DL} (hp : detV p = true) (hs : detV s = true) {q : PQ} (hy : 0 ≤ q.1.2 ∧ q.1.2 < s.1) : ∀ (l : List Ed) (R : List PQ), (∀ e ∈ l, e ∈ p.2.2.2) → GoodR p s R → GoodR p s (expL p s q R l)
  | [], R, _, h => h
  | e :: l, R, hl, h => GoodR.expL hp hs hy l _ (fun x hx => hl x (List.mem_cons_of_mem _ hx)) (h.exp hp hs hy (hl e (by simp)))
theorem GoodR.expP {p s : DL} (hp : detV p = true) (hs : detV s = true) {R : List PQ} (h : GoodR p s R) {k : Nat} {q : PQ} (hk : R[k]? = some q) : GoodR p s (expP p s R q) :=
  GoodR.expL hp hs (h.2 q (List.mem_of_getElem? hk)).2 _ _ (fun e he => (List.mem_filter.1 he).1) h
theorem nodup_le_aux : ∀ (n : Nat) (l : List Nat), l.Nodup → (∀ x ∈ l, x < n) → l.length ≤ n
  | 0, l, _, h => by
    cases l with
    | nil => simp
    | cons a l => exact absurd (h a (by simp)) (by omega)
  | n + 1, l, hd, h => by
    have h1 := nodup_le_aux n (l.filter fun x => decide (x ≠ n)) (hd.filter _) (fun x hx => by
      obtain ⟨h2, h3⟩ := List.mem_filter.1 hx
      have := h x h2
      have h4 : x ≠ n := by simpa using h3
      omega)
    have h2 : l.length ≤ (l.filter fun x => decide (x ≠ n)).length + 1 := by
      have h3 : l.length = l.countP (fun x => decide (x ≠ n)) + l.countP (fun x => !(decide (x ≠ n))) := by
        rw [List.length_eq_countP_add_countP (fun x => decide (x ≠ n))]
        congr 1
        apply List.countP_congr
        intro x _
        simp
      have h4 : l.countP (fun x => !(decide (x ≠ n))) ≤ 1 := by
        have h5 : l.countP (fun x => !(decide (x ≠ n))) = l.count n := by
          unfold List.count
          apply List.countP_congr
          intro x _
          simp
        rw [h5]
        exact List.nodup_iff_count.1 hd n
      rw [← List.countP_eq_length_filter]
      omega
    omega
theorem GoodR.len {p s : DL} (hp : p.1 ≤ 40) (hs : s.1 ≤ 40) {R : List PQ} (h : GoodR p s R) : R.length ≤ 1600 := by
  have h1 : ((R.map (·.1)).map fun q : PR => q.1.toNat * 40 + q.2.toNat).Nodup := by
    refine List.pairwise_map.2 (List.Pairwise.imp_of_mem ?_ h.1)
    intro a b ha hb hne e
    obtain ⟨qa, ma, rfl⟩ := List.mem_map.1 ha
    obtain ⟨qb, mb, rfl⟩ := List.mem_map.1 hb
    have ra := h.2 qa ma
    have rb := h.2 qb mb
    refine hne (Prod.ext ?_ ?_) <;> omega
  have h2 := nodup_le_aux 1600 _ h1 (fun x hx => by
    obtain ⟨q, hq, rfl⟩ := List.mem_map.1 hx
    obtain ⟨r, hr, rfl⟩ := List.mem_map.1 hq
    have := h.2 r hr
    omega)
  rwa [List.length_map, List.length_map] at h2
theorem GoodR.start {p s : DL} (hp : 0 ≤ p.2.1 ∧ p.2.1 < p.1) (hs : 0 ≤ s.2.1 ∧ s.2.1 < s.1) : GoodR p s (startR p s) :=
  ⟨by simp [startR], fun q hq => by
    simp [startR] at hq
    subst hq
    exact ⟨hp, hs⟩⟩

/-- Where a search stands: what it will have found is fixed. -/
structure AtR (p s : DL) (k : Nat) (R : List PQ) : Prop where
  good : GoodR p s R
  le : k ≤ R.length
  ends : goR p s (1601 - k) k R = allR p s
theorem AtR.step {p s : DL} (hp : detV p = true) (hs : detV s = true) (hp4 : p.1 ≤ 40) (hs4 : s.1 ≤ 40) {k : Nat} {R : List PQ} (h : AtR p s k R) {q : PQ} (hk : R[k]? = some q) : AtR p s (k + 1) (expP p s R q) := by
  have hl := h.good.len hp4 hs4
  have hlt : k < R.length := (List.getElem?_eq_some_iff.1 hk).1
  have hpre := expL_pre p s q (outE p.2.2.2 q.1.1) R
  refine ⟨h.good.expP hp hs hk, Nat.le_trans hlt hpre.length_le, ?_⟩
  rw [← h.ends, show 1601 - k = (1601 - (k + 1)) + 1 by omega]
  conv => rhs; unfold goR
  rw [hk]
theorem AtR.fin {p s : DL} (hp4 : p.1 ≤ 40) (hs4 : s.1 ≤ 40) {k : Nat} {R : List PQ} (h : AtR p s k R) (hk : R.length ≤ k) : R = allR p s := by
  have hl := h.good.len hp4 hs4
  have := h.le
  rw [← h.ends, show 1601 - k = (1601 - (k + 1)) + 1 by omega]
  unfold goR
  rw [List.getElem?_eq_none hk]
theorem AtR.start {p s : DL} (hp : 0 ≤ p.2.1 ∧ p.2.1 < p.1) (hs : 0 ≤ s.2.1 ∧ s.2.1 < s.1) : AtR p s 0 (startR p s) := ⟨GoodR.start hp hs, Nat.zero_le _, rfl⟩
theorem AtR.pre {p s : DL} {k : Nat} {R : List PQ} (h : AtR p s k R) : R <+: allR p s := by rw [← h.ends]; exact goR_pre _ _ _ _ _

/-- The first label at a pair that is prevented and not controlled. -/
def fauL (ctl : ByteArray → Bool) (p s : DL) (q : PR) : Option ByteArray := (prvL p s q.1 q.2).find? fun l => !(ctl l)
/-- The first pair with such a label: what leads to it, and the label. -/
def fauR (ctl : ByteArray → Bool) (p s : DL) : List PQ → Option (List ByteArray × ByteArray)
  | [] => none
  | q :: R => match fauL ctl p s q.1 with | some l => some (q.2, l) | none => fauR ctl p s R
theorem fauR_at {ctl : ByteArray → Bool} {p s : DL} {R : List PQ} {k : Nat} {q : PQ} (hk : R[k]? = some q) : fauR ctl p s (R.drop k) = (match fauL ctl p s q.1 with | some l => some (q.2, l) | none => fauR ctl p s (R.drop (k + 1))) := by
  obtain ⟨hlt, rfl⟩ := List.getElem?_eq_some_iff.1 hk
  rw [List.drop_eq_getElem_cons hlt]
  rfl

end Go.Proofs.YtiaclddgllkgpaaGreatDoor
