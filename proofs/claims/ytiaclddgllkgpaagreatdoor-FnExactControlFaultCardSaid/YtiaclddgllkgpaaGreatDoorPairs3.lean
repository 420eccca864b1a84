/-
  The paths to the pairs are short and made of labels; the walk along the edges of one pair, step by step; rows of paths that grow. Conditions: none.
-/
import Derived.Test.YtiaclddgllkgpaaGreatDoorCtlS
import Derived.Test.YtiaclddgllkgpaaGreatDoorDistS
namespace Go.Proofs.YtiaclddgllkgpaaGreatDoor
open Go.ChangeShapes Go.WideShapes Go.ChangeAt Go.RowKit Go.Sort
set_option linter.unusedVariables false
set_option linter.unusedSimpArgs false

def PathR (p : DL) (R : List PQ) : Prop := ∀ (i : Nat) (q : PQ), R[i]? = some q → q.2.length ≤ i ∧ ∀ x ∈ q.2, x ∈ p.2.2.1
theorem PathR.add {p : DL} {R : List PQ} (h : PathR p R) {q : PR} {path : List ByteArray} (hl : path.length ≤ R.length) (hm : ∀ x ∈ path, x ∈ p.2.2.1) : PathR p (addP R q path) := by
  unfold addP
  split
  · exact h
  · intro i r hr
    rcases Nat.lt_or_ge i R.length with h1 | h1
    · rw [List.getElem?_append_left h1] at hr
      exact h i r hr
    · rw [List.getElem?_append_right h1] at hr
      have h2 : i - R.length = 0 := by
        have := (List.getElem?_eq_some_iff.1 hr).1
        simp at this
        omega
      rw [h2] at hr
      cases hr
      exact ⟨Nat.le_trans hl h1, hm⟩
theorem PathR.exp {st ini : Int} {ls : List ByteArray} {es : List Ed} {s : DL} (hp : detV (st, ini, ls, es) = true) {y : Int} {path : List ByteArray} {R : List PQ} (h : PathR (st, ini, ls, es) R) (hl : path.length + 1 ≤ R.length) (hm : ∀ x ∈ path, x ∈ ls) {e : Ed} (he : e ∈ es) : PathR (st, ini, ls, es) (expE (st, ini, ls, es) s y path R e) := by
  unfold expE
  split
  · refine h.add (by rw [List.length_append]; exact hl) fun x hx => ?_
    rcases List.mem_append.1 hx with hx | hx
    · exact hm x hx
    · rw [List.mem_singleton.1 hx]
      exact List.mem_of_getElem? (labE_at hp he)
  · exact h
theorem PathR.expL {st ini : Int} {ls : List ByteArray} {es : List Ed} {s : DL} (hp : detV (st, ini, ls, es) = true) {q : PQ} : ∀ (l : List Ed) (R : List PQ), (∀ e ∈ l, e ∈ es) → q.2.length + 1 ≤ R.length → (∀ x ∈ q.2, x ∈ ls) → PathR (st, ini, ls, es) R → PathR (st, ini, ls, es) (expL (st, ini, ls, es) s q R l)
  | [], R, _, _, _, h => h
  | e :: l, R, hl, hn, hm, h => PathR.expL hp l _ (fun x hx => hl x (List.mem_cons_of_mem _ hx)) (Nat.le_trans hn (expE_pre _ _ _ _ _ _).length_le) hm (h.exp hp hn hm (hl e (by simp)))
theorem PathR.go {st ini : Int} {ls : List ByteArray} {es : List Ed} {s : DL} (hp : detV (st, ini, ls, es) = true) : ∀ (f k : Nat) (R : List PQ), PathR (st, ini, ls, es) R → PathR (st, ini, ls, es) (goR (st, ini, ls, es) s f k R)
  | 0, _, _, h => h
  | f + 1, k, R, h => by
    unfold goR
    split
    · rename_i q hq
      have h1 := h k q hq
      have hlt := (List.getElem?_eq_some_iff.1 hq).1
      exact PathR.go hp f (k + 1) _ (h.expL hp _ R (fun e he => (List.mem_filter.1 he).1) (by omega) h1.2)
    · exact h
theorem allR_path {st ini : Int} {ls : List ByteArray} {es : List Ed} (s : DL) (hp : detV (st, ini, ls, es) = true) : PathR (st, ini, ls, es) (allR (st, ini, ls, es) s) := PathR.go hp _ _ _ (fun i q h => by
  unfold startR at h
  match i with
  | 0 => cases h; exact ⟨Nat.le_refl _, fun x hx => by cases hx⟩
  | i + 1 => cases h)

theorem addP_mem (R : List PQ) (q : PR) (path : List ByteArray) : q ∈ (addP R q path).map (·.1) := by
  unfold addP
  split
  · assumption
  · simp
theorem expL_mem {p s : DL} {q : PQ} : ∀ (l : List Ed) (R : List PQ) {e : Ed}, e ∈ l → aloOk s q.1.2 (labE p.2.2.1 e) = true → (e.2.2, aloTo s q.1.2 (labE p.2.2.1 e)) ∈ (expL p s q R l).map (·.1)
  | a :: l, R, e, he, ha => by
    rcases List.mem_cons.1 he with rfl | he
    · have h1 : (e.2.2, aloTo s q.1.2 (labE p.2.2.1 e)) ∈ (expE p s q.1.2 q.2 R e).map (·.1) := by
        unfold expE
        rw [if_pos ha]
        exact addP_mem _ _ _
      obtain ⟨x, hx, ex⟩ := List.mem_map.1 h1
      exact List.mem_map.2 ⟨x, (expL_pre p s q l _).subset hx, ex⟩
    · exact expL_mem l (expE p s q.1.2 q.2 R a) he ha
theorem edgR_of {p s : DL} {k : Nat} {q : PQ} (hk : (allR p s)[k]? = some q) : ∀ n, ∀ e ∈ edgR p s n, e.1 = (k : Int) → e ∈ edgK p s k q.1.2 (outE p.2.2.2 q.1.1)
  | 0, e, he, _ => by cases he
  | n + 1, e, he, h => by
    unfold edgR at he
    rcases List.mem_append.1 he with he | he
    · exact edgR_of hk n e he h
    · split at he
      · rename_i r hr
        have h1 := edgK_from e he
        have : n = k := by omega
        subst this
        rw [hk] at hr
        obtain rfl := Option.some.inj hr
        exact he
      · cases he
/-- An edge of the pair k: where it leads, its label. -/
theorem edg_at {st ini : Int} {ls : List ByteArray} {es : List Ed} {s : DL} (hp : detV (st, ini, ls, es) = true) (hg : GoodR (st, ini, ls, es) s (allR (st, ini, ls, es) s)) {k : Nat} {q : PQ} {R : List PQ} (hk : (allR (st, ini, ls, es) s)[k]? = some q) (hF : expP (st, ini, ls, es) s R q <+: allR (st, ini, ls, es) s) {n : Nat} {e : Ed} (he : e ∈ edgR (st, ini, ls, es) s n) (h1 : e.1 = (k : Int)) :
    ∃ (t : Nat) (x : PQ) (lab : ByteArray), e.2.2 = (t : Int) ∧ (allR (st, ini, ls, es) s)[t]? = some x ∧ 0 ≤ e.2.1 ∧ ls[e.2.1.toNat]? = some lab ∧ ∀ R', stpE (st, ini, ls, es) s k q.2 R' e = addP R' x.1 (q.2 ++ [lab]) := by
  have h2 := edgR_of hk n e he h1
  unfold edgK at h2
  obtain ⟨e0, h3, rfl⟩ := List.mem_map.1 h2
  obtain ⟨h4, h5⟩ := List.mem_filter.1 h3
  have h6 := expL_mem (p := (st, ini, ls, es)) (s := s) (q := q) _ R h4 h5
  obtain ⟨x, hx, ex⟩ := List.mem_map.1 h6
  obtain ⟨t, ht⟩ := List.getElem?_of_mem (hF.subset hx)
  have h7 := rowI_idx hg ht
  rw [ex] at h7
  have hes := (List.mem_filter.1 h4).1
  have h8 := labE_at hp hes
  have h9 := det_first hp e0 hes
  refine ⟨t, x, labE ls e0, h7, ht, by show 0 ≤ e0.2.1; omega, h8, fun R' => ?_⟩
  unfold stpE
  rw [if_pos h1]
  unfold edgE
  dsimp only
  rw [h7, Int.toNat_natCast, ht]
  rfl
/-- A number of a pair is below the number of those found exactly if the pair is found. -/
theorem pre_mem {p s : DL} {R : List PQ} (hg : GoodR p s (allR p s)) (hpre : R <+: allR p s) {t : Nat} {x : PQ} (ht : (allR p s)[t]? = some x) : x.1 ∈ R.map (·.1) ↔ t < R.length := by
  constructor
  · intro h
    obtain ⟨y, hy, ey⟩ := List.mem_map.1 h
    obtain ⟨i, hi⟩ := List.getElem?_of_mem hy
    have h1 := rows_at (pre_at hpre hi)
    rw [ey] at h1
    have := nodup_at hg.rows h1 (rows_at ht)
    have := (List.getElem?_eq_some_iff.1 hi).1
    omega
  · intro h
    have h1 := pre_at hpre (List.getElem?_eq_getElem h)
    rw [ht] at h1
    cases h1
    exact List.mem_map.2 ⟨_, List.getElem_mem h, rfl⟩
theorem stp_old {p s : DL} {R : List PQ} (hg : GoodR p s (allR p s)) (hpre : R <+: allR p s) {t : Nat} {x : PQ} (ht : (allR p s)[t]? = some x) (h : t < R.length) (path : List ByteArray) : addP R x.1 path = R := if_pos ((pre_mem hg hpre ht).2 h)
theorem stp_new {p s : DL} {R : List PQ} (hg : GoodR p s (allR p s)) {t : Nat} {x : PQ} (ht : (allR p s)[t]? = some x) {path : List ByteArray} (hpre : addP R x.1 path <+: allR p s) (h : ¬ t < R.length) : t = R.length ∧ addP R x.1 path = R ++ [(x.1, path)] := by
  have hR : R <+: allR p s := (addP_pre _ _ _).trans hpre
  have e : addP R x.1 path = R ++ [(x.1, path)] := if_neg fun hm => h ((pre_mem hg hR ht).1 hm)
  rw [e] at hpre
  refine ⟨?_, e⟩
  have h1 := rows_at (pre_at hpre (k := R.length) (x := (x.1, path)) (by simp))
  exact nodup_at hg.rows (rows_at ht) h1
theorem stp_drop {p s : DL} {k : Nat} {path : List ByteArray} {E : List Ed} {i : Nat} {e : Ed} {R F : List PQ} (h : (E.drop i).foldl (stpE p s k path) R = F) (hx : E[i]? = some e) : (E.drop (i + 1)).foldl (stpE p s k path) (stpE p s k path R e) = F := by
  obtain ⟨hlt, rfl⟩ := List.getElem?_eq_some_iff.1 hx
  rw [List.drop_eq_getElem_cons hlt] at h
  exact h
theorem stp_fpre {p s : DL} {k : Nat} {path : List ByteArray} {E : List Ed} {i : Nat} {R F : List PQ} (h : (E.drop i).foldl (stpE p s k path) R = F) : R <+: F := by
  rw [← h]
  exact stp_pre _ _ _ _ _ _

def ordL (m : Nat) : List Int := (List.range m).map fun i : Nat => (i : Int)
theorem ordL_succ (m : Nat) : ordL (m + 1) = ordL m ++ [(m : Int)] := by
  unfold ordL
  rw [List.range_succ, List.map_append]
  rfl
theorem ordL_at {m k : Nat} (h : k < m) : (ordL m)[k]? = some (k : Int) := by
  unfold ordL
  rw [List.getElem?_map, List.getElem?_range h]
  rfl
theorem ordL_len (m : Nat) : (ordL m).length = m := by unfold ordL; simp
theorem ordL_has (m t : Nat) : (ordL m).any (fun x => decide (x = (t : Int))) = decide (t < m) := by
  by_cases h : t < m
  · rw [decide_eq_true h, List.any_eq_true]
    exact ⟨(t : Int), List.mem_of_getElem? (ordL_at h), by simp⟩
  · rw [decide_eq_false h, List.any_eq_false]
    intro x hx
    unfold ordL at hx
    obtain ⟨i, hi, rfl⟩ := List.mem_map.1 hx
    have := List.mem_range.1 hi
    simp
    omega

/-- Rows of texts, each a row that was grown. -/
structure PathsW (w : World) (base : Nat) (A : Option Addr) (n c : Nat) (H : List (Hd × List ByteArray)) : Prop where
  own : Own 1 sv w base 22 A n c (H.map (·.1))
  rows : ∀ r ∈ H, Own 1 strv w base 9 r.1.1 r.1.2.1 r.1.2.2 r.2
section
variable {w w' : World} {base n c : Nat} {A : Option Addr} {H : List (Hd × List ByteArray)}
theorem PathsW.len (h : PathsW w base A n c H) : H.length = n := by have := h.own.1; rwa [List.length_map] at this
theorem PathsW.kept (h : PathsW w base A n c H) (hk : ∀ b, b < w.heap.size → w'.heap[b]? = w.heap[b]?) : PathsW w' base A n c H :=
  ⟨h.own.keep fun g hg => hk g (h.own.lt g hg).2, fun r hr => (h.rows r hr).keep fun g hg => hk g ((h.rows r hr).lt g hg).2⟩
theorem PathsW.below (h : PathsW w base A n c H) (hb : Below w.heap.size w w') : PathsW w' base A n c H := h.kept hb.block
theorem PathsW.grown (h : PathsW w base A n c H) {β : Type} {size : Nat} {f : β → List Value} {e : TypeId} {B : Option Addr} {m d : Nat} {l : List β} (ho : Own size f w base e B m d l) (h1 : 22 ≠ e) (h2 : 9 ≠ e) (hg : w.grownBy w' (Value.slice B m d).ownBlock) : PathsW w' base A n c H :=
  ⟨h.own.kept hg (h.own.apart ho h1), fun r hr => (h.rows r hr).kept hg ((h.rows r hr).apart ho h2)⟩
theorem PathsW.push (h : PathsW w base A n c H) {r : Hd × List ByteArray} (hr : Own 1 strv w base 9 r.1.1 r.1.2.1 r.1.2.2 r.2) {A' : Option Addr} {c' : Nat} (ho : Own 1 sv w' base 22 A' (n + 1) c' (H.map (·.1) ++ [r.1])) (hg : w.grownBy w' (Value.slice A n c).ownBlock) : PathsW w' base A' (n + 1) c' (H ++ [r]) :=
  ⟨by rw [List.map_append]; exact ho, fun x hx => by
    rcases List.mem_append.1 hx with hx | hx
    · exact (h.rows x hx).kept hg ((h.rows x hx).apart h.own (by decide))
    · rw [List.mem_singleton.1 hx]
      exact hr.kept hg (hr.apart h.own (by decide))⟩
theorem PathsW.at_ (h : PathsW w base A n c H) {k : Nat} {l : List ByteArray} (hk : (H.map (·.2))[k]? = some l) : ∃ b off Ah nh ch, A = some ⟨b, off, none⟩ ∧ base ≤ b ∧ b < w.heap.size ∧ k < n ∧ w.cell? ⟨b, off + k, none⟩ = some (.slice Ah nh ch) ∧ Own 1 strv w base 9 Ah nh ch l := by
  rw [List.getElem?_map] at hk
  obtain ⟨⟨⟨Ah, nh, ch⟩, l'⟩, hr, e⟩ := Option.map_eq_some_iff.1 hk
  have e : l' = l := e
  subst e
  have hlt : k < n := by rw [← h.len]; exact (List.getElem?_eq_some_iff.1 hr).1
  obtain ⟨b, off, e1, g1, -, g3, hc⟩ := (h.own.sl flat_sv).at_ (by omega)
  have h0 := hc k (Ah, nh, ch) (by rw [List.getElem?_map, hr]; rfl) 0 _ rfl
  simp only [Nat.mul_one, Nat.add_zero] at h0
  exact ⟨b, off, Ah, nh, ch, e1, g1, g3, hlt, h0.1, h.rows _ (List.mem_of_getElem? hr)⟩
end

end Go.Proofs.YtiaclddgllkgpaaGreatDoor
