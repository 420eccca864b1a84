/-
  The edges between the pairs that are found, plain; the walk along them finds the same pairs again. Conditions: none.
-/
import Derived.Test.YtiaclddgllkgpaaGreatDoorBlkS
namespace Go.Proofs.YtiaclddgllkgpaaGreatDoor
open Go.ChangeShapes Go.WideShapes Go.ChangeAt Go.RowKit Go.Sort
set_option linter.unusedVariables false

def rowO (q : PR) : List Int := [q.1, q.2]
def rowsO (R : List PQ) : List (List Int) := R.map fun q => rowO q.1
theorem rowO_inj {a b : PR} (h : rowO a = rowO b) : a = b := by
  unfold rowO at h
  injection h with h1 h2
  injection h2 with h2 _
  exact Prod.ext h1 h2
theorem rowI_cases (L : List (List Int)) (r : List Int) : (rowI L r = -1 ∧ r ∉ L) ∨ ∃ k : Nat, rowI L r = (k : Int) ∧ L[k]? = some r := by
  unfold rowI
  cases h : L.findIdx? (fun l => decide (l = r)) with
  | none =>
    rw [List.findIdx?_eq_none_iff] at h
    exact .inl ⟨rfl, fun hm => by simpa using h r hm⟩
  | some k =>
    obtain ⟨hlt, hg, -⟩ := List.findIdx?_eq_some_iff_getElem.1 h
    refine .inr ⟨k, rfl, ?_⟩
    rw [List.getElem?_eq_getElem hlt]
    simpa using hg
theorem nodup_at {α : Type} {L : List α} (h : L.Nodup) {i j : Nat} {x : α} (hi : L[i]? = some x) (hj : L[j]? = some x) : i = j := by
  obtain ⟨li, rfl⟩ := List.getElem?_eq_some_iff.1 hi
  obtain ⟨lj, e⟩ := List.getElem?_eq_some_iff.1 hj
  rcases Nat.lt_trichotomy i j with h1 | h1 | h1
  · exact absurd e.symm (List.pairwise_iff_getElem.1 h i j li lj h1)
  · exact h1
  · exact absurd e (List.pairwise_iff_getElem.1 h j i lj li h1)
theorem GoodR.rows {p s : DL} {R : List PQ} (h : GoodR p s R) : (rowsO R).Nodup := by
  unfold rowsO
  have h1 := h.1
  unfold List.Nodup at h1 ⊢
  rw [List.pairwise_map] at h1 ⊢
  exact h1.imp fun hne e => hne (rowO_inj e)
theorem rows_at {R : List PQ} {k : Nat} {q : PQ} (h : R[k]? = some q) : (rowsO R)[k]? = some (rowO q.1) := by
  unfold rowsO
  rw [List.getElem?_map, h]
  rfl
theorem rows_mem {R : List PQ} {q : PR} : rowO q ∈ rowsO R ↔ q ∈ R.map (·.1) := by
  unfold rowsO
  constructor
  · intro h
    obtain ⟨x, hx, e⟩ := List.mem_map.1 h
    rw [← rowO_inj e]
    exact List.mem_map.2 ⟨x, hx, rfl⟩
  · intro h
    obtain ⟨x, hx, rfl⟩ := List.mem_map.1 h
    exact List.mem_map.2 ⟨x, hx, rfl⟩
/-- The number of a pair in a list is its number in all longer ones. -/
theorem rowI_idx {p s : DL} {R : List PQ} (h : GoodR p s R) {k : Nat} {q : PQ} (hk : R[k]? = some q) : rowI (rowsO R) (rowO q.1) = (k : Int) := by
  rcases rowI_cases (rowsO R) (rowO q.1) with ⟨-, h2⟩ | ⟨j, e, hj⟩
  · exact absurd (List.mem_of_getElem? (rows_at hk)) h2
  · rw [e, nodup_at h.rows hj (rows_at hk)]
theorem pre_at {α : Type} {R S : List α} (h : R <+: S) {k : Nat} {x : α} (hk : R[k]? = some x) : S[k]? = some x := by
  obtain ⟨t, rfl⟩ := h
  rw [List.getElem?_append_left (List.getElem?_eq_some_iff.1 hk).1]
  exact hk

/-- The edge of a pair along an edge. -/
def edgE (p s : DL) (k : Nat) (y : Int) (e : Ed) : Ed := ((k : Int), e.2.1, rowI (rowsO (allR p s)) (rowO (e.2.2, aloTo s y (labE p.2.2.1 e))))
def edgK (p s : DL) (k : Nat) (y : Int) (l : List Ed) : List Ed := (l.filter fun e => aloOk s y (labE p.2.2.1 e)).map (edgE p s k y)
def edgR (p s : DL) : Nat → List Ed
  | 0 => []
  | k + 1 => edgR p s k ++ (match (allR p s)[k]? with | some q => edgK p s k q.1.2 (outE p.2.2.2 q.1.1) | none => [])
theorem edgR_succ {p s : DL} {k : Nat} {q : PQ} (h : (allR p s)[k]? = some q) : edgR p s (k + 1) = edgR p s k ++ edgK p s k q.1.2 (outE p.2.2.2 q.1.1) := by
  conv => lhs; unfold edgR
  rw [h]
theorem edgK_succ {p s : DL} {k j : Nat} {y : Int} {l : List Ed} {e : Ed} (hx : l[j]? = some e) : edgK p s k y (l.take (j + 1)) = edgK p s k y (l.take j) ++ (if aloOk s y (labE p.2.2.1 e) = true then [edgE p s k y e] else []) := by
  unfold edgK
  rw [List.take_add_one, hx, List.filter_append, List.map_append]
  congr 1
  cases h : aloOk s y (labE p.2.2.1 e) <;> simp [h]
theorem edgK_len (p s : DL) (k : Nat) (y : Int) (l : List Ed) : (edgK p s k y l).length ≤ l.length := by
  unfold edgK
  rw [List.length_map]
  exact List.length_filter_le _ _
theorem edgR_len {st ini : Int} {ls : List ByteArray} {es : List Ed} (h : detV (st, ini, ls, es) = true) (s : DL) : ∀ k, (edgR (st, ini, ls, es) s k).length ≤ 12 * k
  | 0 => Nat.le_refl _
  | k + 1 => by
    have h1 := edgR_len h s k
    unfold edgR
    split
    · rename_i q _
      have h2 := edgK_len (st, ini, ls, es) s k q.1.2 (outE (st, ini, ls, es).2.2.2 q.1.1)
      have h3 : (outE (st, ini, ls, es).2.2.2 q.1.1).length ≤ 12 := out_few h q.1.1
      rw [List.length_append]
      omega
    · rw [List.length_append]
      simp
      omega

/-- What an edge of the pairs adds to those that are found, seen from one. -/
def stpE (p s : DL) (k : Nat) (path : List ByteArray) (R : List PQ) (e : Ed) : List PQ :=
  if e.1 = (k : Int) then (match (allR p s)[e.2.2.toNat]? with | some q => addP R q.1 (path ++ [(p.2.2.1[e.2.1.toNat]?).getD ⟨#[]⟩]) | none => R) else R
theorem stpE_pre (p s : DL) (k : Nat) (path : List ByteArray) (R : List PQ) (e : Ed) : R <+: stpE p s k path R e := by
  unfold stpE
  split
  · split
    · exact addP_pre _ _ _
    · exact List.prefix_rfl
  · exact List.prefix_rfl
theorem stp_pre (p s : DL) (k : Nat) (path : List ByteArray) : ∀ (l : List Ed) (R : List PQ), R <+: l.foldl (stpE p s k path) R
  | [], R => List.prefix_rfl
  | e :: l, R => (stpE_pre p s k path R e).trans (stp_pre p s k path l _)
theorem stp_none (p s : DL) (k : Nat) (path : List ByteArray) : ∀ (l : List Ed) (R : List PQ), (∀ e ∈ l, e.1 ≠ (k : Int)) → l.foldl (stpE p s k path) R = R
  | [], R, _ => rfl
  | e :: l, R, h => by
    rw [List.foldl_cons]
    have h1 : stpE p s k path R e = R := if_neg (h e (by simp))
    rw [h1]
    exact stp_none p s k path l R (fun x hx => h x (List.mem_cons_of_mem _ hx))
theorem edgK_from {p s : DL} {k : Nat} {y : Int} {l : List Ed} : ∀ e ∈ edgK p s k y l, e.1 = (k : Int) := fun e he => by
  unfold edgK at he
  obtain ⟨x, -, rfl⟩ := List.mem_map.1 he
  rfl
/-- From one pair: the edges that were laid lead where the search led. -/
theorem stp_edgK {p s : DL} {k : Nat} {q : PQ} (hg : GoodR p s (allR p s)) : ∀ (l : List Ed) (R : List PQ), expL p s q R l <+: allR p s → (edgK p s k q.1.2 l).foldl (stpE p s k q.2) R = expL p s q R l
  | [], R, _ => rfl
  | e :: l, R, h => by
    have h' : expL p s q (expE p s q.1.2 q.2 R e) l <+: allR p s := h
    have ih := stp_edgK (k := k) hg l (expE p s q.1.2 q.2 R e) h'
    show _ = expL p s q (expE p s q.1.2 q.2 R e) l
    rw [← ih]
    by_cases ha : aloOk s q.1.2 (labE p.2.2.1 e) = true
    · have e1 : edgK p s k q.1.2 (e :: l) = edgE p s k q.1.2 e :: edgK p s k q.1.2 l := by
        unfold edgK
        simp only [List.filter_cons, ha, if_true, List.map_cons]
      rw [e1, List.foldl_cons]
      congr 1
      have h2 : expE p s q.1.2 q.2 R e = addP R (e.2.2, aloTo s q.1.2 (labE p.2.2.1 e)) (q.2 ++ [labE p.2.2.1 e]) := if_pos ha
      have hm : (e.2.2, aloTo s q.1.2 (labE p.2.2.1 e)) ∈ (addP R (e.2.2, aloTo s q.1.2 (labE p.2.2.1 e)) (q.2 ++ [labE p.2.2.1 e])).map (·.1) := by
        unfold addP
        split
        · assumption
        · simp
      obtain ⟨x, hx, ex⟩ := List.mem_map.1 hm
      have hpre : addP R (e.2.2, aloTo s q.1.2 (labE p.2.2.1 e)) (q.2 ++ [labE p.2.2.1 e]) <+: allR p s := by
        rw [← h2]
        exact (expL_pre p s q l _).trans h'
      obtain ⟨i, hi⟩ := List.getElem?_of_mem (hpre.subset hx)
      have h3 := rowI_idx hg hi
      rw [ex] at h3
      unfold stpE edgE
      rw [if_pos rfl]
      dsimp only
      rw [h3, h2, Int.toNat_natCast, hi]
      dsimp only
      rw [ex]
      rfl
    · have e1 : edgK p s k q.1.2 (e :: l) = edgK p s k q.1.2 l := by
        unfold edgK
        simp only [List.filter_cons, if_neg ha]
      have h2 : expE p s q.1.2 q.2 R e = R := if_neg ha
      rw [e1, h2]
theorem stp_edgR {p s : DL} {k : Nat} {q : PQ} {R : List PQ} (hg : GoodR p s (allR p s)) (hk : (allR p s)[k]? = some q) (hpre : expP p s R q <+: allR p s) : ∀ n, (edgR p s n).foldl (stpE p s k q.2) R = if k < n then expP p s R q else R
  | 0 => rfl
  | n + 1 => by
    have ih := stp_edgR hg hk hpre n
    cases hn : (allR p s)[n]? with
    | none =>
      have : edgR p s (n + 1) = edgR p s n := by
        conv => lhs; unfold edgR
        rw [hn, List.append_nil]
      rw [this, ih]
      have h1 := (List.getElem?_eq_some_iff.1 hk).1
      have h2 := List.getElem?_eq_none_iff.1 hn
      rw [if_pos (by omega), if_pos (by omega)]
    | some r =>
      rw [edgR_succ hn, List.foldl_append, ih]
      by_cases h1 : n = k
      · subst h1
        rw [hk] at hn
        obtain rfl := Option.some.inj hn
        rw [if_neg (by omega), if_pos (by omega)]
        exact stp_edgK hg _ _ hpre
      · rw [stp_none _ _ _ _ _ _ (fun e he => by rw [edgK_from e he]; omega)]
        by_cases h2 : k < n
        · rw [if_pos h2, if_pos (by omega)]
        · rw [if_neg h2, if_neg (by omega)]

/-! ## What is at fault, as a label's number -/
def fauN (ns : List ByteArray) (p s : DL) (q : PR) : Int := (((outE p.2.2.2 q.1).filter fun e => !(aloOk s q.2 (labE p.2.2.1 e))).map (·.2.1)).find? (fun n => !(ctlB ns ((p.2.2.1[n.toNat]?).getD ⟨#[]⟩))) |>.getD (-1)
theorem find_map_lab (f : ByteArray → Bool) (g : Int → ByteArray) : ∀ l : List Int, (l.map g).find? f = (l.find? fun n => f (g n)).map g
  | [] => rfl
  | a :: l => by
    rw [List.map_cons, List.find?_cons, List.find?_cons]
    cases f (g a)
    · exact find_map_lab f g l
    · rfl
theorem fauL_eq (ns : List ByteArray) (p s : DL) (q : PR) : fauL (ctlB ns) p s q = ((((outE p.2.2.2 q.1).filter fun e => !(aloOk s q.2 (labE p.2.2.1 e))).map (·.2.1)).find? (fun n => !(ctlB ns ((p.2.2.1[n.toNat]?).getD ⟨#[]⟩)))).map fun n => (p.2.2.1[n.toNat]?).getD ⟨#[]⟩ := by
  unfold fauL prvL prvE
  rw [← find_map_lab (fun l => !(ctlB ns l)) (fun n => (p.2.2.1[n.toNat]?).getD ⟨#[]⟩), List.map_map]
  rfl
theorem fauN_cases {st ini : Int} {ls : List ByteArray} {es : List Ed} (h : detV (st, ini, ls, es) = true) (ns : List ByteArray) (s : DL) (q : PR) :
    (fauN ns (st, ini, ls, es) s q = -1 ∧ fauL (ctlB ns) (st, ini, ls, es) s q = none) ∨
    (0 ≤ fauN ns (st, ini, ls, es) s q ∧ ∃ lab, ls[(fauN ns (st, ini, ls, es) s q).toNat]? = some lab ∧ fauL (ctlB ns) (st, ini, ls, es) s q = some lab) := by
  rw [fauL_eq]
  unfold fauN
  dsimp only
  cases hf : (((outE es q.1).filter fun e => !(aloOk s q.2 (labE ls e))).map (·.2.1)).find? (fun n => !(ctlB ns ((ls[n.toNat]?).getD ⟨#[]⟩))) with
  | none => exact .inl ⟨rfl, rfl⟩
  | some n =>
    have hm := List.mem_of_find?_eq_some hf
    obtain ⟨e, he, rfl⟩ := List.mem_map.1 hm
    have hes := (List.mem_filter.1 (List.mem_filter.1 he).1).1
    have h1 := det_first h e hes
    have h2 := labE_at h hes
    refine .inr ⟨by simp; omega, labE ls e, by simpa using h2, ?_⟩
    simp [labE]

/-- The value of ControlFault. -/
def ctlF (d : DP) (s : DL) : List ByteArray × ByteArray × Int :=
  if (plantV d && detV s) = true then (match fauR (ctlB d.2.2) d.1 s (allR d.1 s) with | some (path, lab) => (path, lab, 0) | none => ([], ⟨#[]⟩, 3)) else ([], ⟨#[]⟩, 1)
def ctlV (d : DP) (s : DL) : Bool := (plantV d && detV s) && (fauR (ctlB d.2.2) d.1 s (allR d.1 s)).isNone
theorem ctlF_code (d : DP) (s : DL) : decide ((ctlF d s).2.2 = 3) = ctlV d s := by
  unfold ctlF ctlV
  cases (plantV d && detV s)
  · rfl
  · rw [if_pos rfl]
    cases fauR (ctlB d.2.2) d.1 s (allR d.1 s) <;> rfl

end Go.Proofs.YtiaclddgllkgpaaGreatDoor
