/-
  What internal edges reach from some states: lists that grow till nothing is new. Conditions: none.
-/
import Derived.Test.YtiaclddgllkgpaaGreatDoorFolI
namespace Go.Proofs.YtiaclddgllkgpaaGreatDoor
set_option linter.unusedVariables false
set_option linter.unusedSimpArgs false

/-- Reached from the states with P by internal edges. -/
inductive TauC (es : List Ed) (ls : List ByteArray) (P : Int → Prop) : Int → Prop where
  | base {v : Int} (h : P v) : TauC es ls P v
  | step {e : Ed} (h : TauC es ls P e.1) (he : e ∈ es) (hl : ls[e.2.1.toNat]? = some tauB) : TauC es ls P e.2.2

def addN (R : List Int) (v : Int) : List Int := if v ∈ R then R else R ++ [v]
def addL (R L : List Int) : List Int := L.foldl addN R
theorem addL_succ {R L : List Int} {k : Nat} {v : Int} (h : L[k]? = some v) : addL R (L.take (k + 1)) = addN (addL R (L.take k)) v := by
  unfold addL
  rw [List.take_add_one, h, List.foldl_append]
  rfl
theorem addN_mem {R : List Int} {v x : Int} : x ∈ addN R v ↔ x ∈ R ∨ x = v := by
  unfold addN
  split
  · constructor
    · exact .inl
    · rintro (h | rfl)
      · exact h
      · assumption
  · simp
theorem addL_mem : ∀ {L R : List Int} {x : Int}, x ∈ addL R L ↔ x ∈ R ∨ x ∈ L
  | [], R, x => by simp [addL]
  | v :: L, R, x => by
    show x ∈ addL (addN R v) L ↔ _
    rw [addL_mem, addN_mem, List.mem_cons]
    constructor
    · rintro ((h | h) | h)
      · exact .inl h
      · exact .inr (.inl h)
      · exact .inr (.inr h)
    · rintro (h | h | h)
      · exact .inl (.inl h)
      · exact .inl (.inr h)
      · exact .inr h

/-- The list begins with S, and what stands behind is in [0, N), each once, and not in S. -/
def Beg (N : Int) (S R : List Int) : Prop := ∃ T, R = S ++ T ∧ T.Nodup ∧ ∀ v ∈ T, v ∉ S ∧ 0 ≤ v ∧ v < N
theorem Beg.refl (N : Int) (S : List Int) : Beg N S S := ⟨[], by simp, List.nodup_nil, fun _ h => by cases h⟩
theorem Beg.add {N : Int} {S R : List Int} (h : Beg N S R) {v : Int} (h0 : 0 ≤ v) (h1 : v < N) : Beg N S (addN R v) := by
  obtain ⟨T, rfl, hn, hv⟩ := h
  unfold addN
  split
  · exact ⟨T, rfl, hn, hv⟩
  · rename_i hnot
    rw [List.mem_append] at hnot
    refine ⟨T ++ [v], by simp, ?_, ?_⟩
    · rw [List.nodup_append]
      exact ⟨hn, by simp, fun a ha b hb => by rw [List.mem_singleton.1 hb]; rintro rfl; exact hnot (.inr ha)⟩
    · intro x hx
      rcases List.mem_append.1 hx with hx | hx
      · exact hv x hx
      · rw [List.mem_singleton.1 hx]
        exact ⟨fun h => hnot (.inl h), h0, h1⟩
theorem Beg.addL {N : Int} {S : List Int} : ∀ {L R : List Int}, Beg N S R → (∀ v ∈ L, 0 ≤ v ∧ v < N) → Beg N S (addL R L)
  | [], R, h, _ => h
  | v :: L, R, h, hv => Beg.addL (L := L) (h.add (hv v (List.mem_cons_self ..)).1 (hv v (List.mem_cons_self ..)).2) fun x hx => hv x (List.mem_cons_of_mem _ hx)
theorem nodup_few_aux : ∀ (n : Nat) (l : List Nat), l.Nodup → (∀ x ∈ l, x < n) → l.length ≤ n
  | 0, l, _, h => by
    cases l with
    | nil => simp
    | cons a l => exact absurd (h a (by simp)) (by omega)
  | n + 1, l, hd, h => by
    have h1 := nodup_few_aux n (l.filter fun x => decide (x ≠ n)) (hd.filter _) (fun x hx => by
      obtain ⟨h2, h3⟩ := List.mem_filter.1 hx
      have := h x h2
      have h4 : x ≠ n := by simpa using h3
      omega)
    have h2 : l.length ≤ (l.filter fun x => decide (x ≠ n)).length + 1 := by
      have h3 : l.length = l.countP (fun x => decide (x ≠ n)) + l.countP (fun x => !(decide (x ≠ n))) := by
        rw [List.length_eq_countP_add_countP (fun x => decide (x ≠ n))]
        congr 1
        apply List.countP_congr
        intro x _
        simp
      have h4 : l.countP (fun x => !(decide (x ≠ n))) ≤ 1 := by
        have h5 : l.countP (fun x => !(decide (x ≠ n))) = l.count n := by
          unfold List.count
          apply List.countP_congr
          intro x _
          simp
        rw [h5]
        exact List.nodup_iff_count.1 hd n
      rw [← List.countP_eq_length_filter]
      omega
    omega
theorem nodup_few {N : Nat} : ∀ {T : List Int}, T.Nodup → (∀ v ∈ T, 0 ≤ v ∧ v < (N : Int)) → T.length ≤ N := by
  intro T hn hv
  have h1 : (T.map Int.toNat).Nodup := by
    rw [List.Nodup, List.pairwise_map]
    refine List.Pairwise.imp_of_mem (fun {a b} ha hb hne => ?_) hn
    have := hv a ha
    have := hv b hb
    omega
  have := nodup_few_aux N (T.map Int.toNat) h1 fun x hx => by
    obtain ⟨v, hvv, rfl⟩ := List.mem_map.1 hx
    have := hv v hvv
    omega
  simpa using this
theorem Beg.len {N : Nat} {S R : List Int} (h : Beg (N : Int) S R) : R.length ≤ S.length + N := by
  obtain ⟨T, rfl, hn, hv⟩ := h
  have := nodup_few hn fun v hx => (hv v hx).2
  rw [List.length_append]
  omega

/-- The search has gone through k states of its list. -/
structure TauI (N : Int) (es : List Ed) (ls : List ByteArray) (S R : List Int) (k : Nat) : Prop where
  beg : Beg N S R
  sound : ∀ v ∈ R, TauC es ls (· ∈ S) v
  closed : ∀ j, j < k → ∀ x, R[j]? = some x → ∀ v ∈ folV es ls tauB [x], v ∈ R
theorem TauI.start (N : Int) (es : List Ed) (ls : List ByteArray) (S : List Int) : TauI N es ls S S 0 :=
  ⟨Beg.refl _ _, fun v hv => .base hv, fun j hj => by omega⟩
theorem addL_get {R L : List Int} {j : Nat} (h : j < R.length) : (addL R L)[j]? = R[j]? := by
  induction L generalizing R with
  | nil => rfl
  | cons v L ih =>
    show (addL (addN R v) L)[j]? = _
    have h2 : j < (addN R v).length := by
      unfold addN
      split
      · exact h
      · rw [List.length_append]; omega
    rw [ih h2]
    unfold addN
    split
    · rfl
    · rw [List.getElem?_append_left h]
theorem addL_len {R L : List Int} : R.length ≤ (addL R L).length := by
  induction L generalizing R with
  | nil => exact Nat.le_refl _
  | cons v L ih =>
    show _ ≤ (addL (addN R v) L).length
    refine Nat.le_trans ?_ ih
    unfold addN
    split
    · exact Nat.le_refl _
    · rw [List.length_append]; omega
theorem TauI.next {N : Int} {es : List Ed} {ls : List ByteArray} {S R : List Int} {k : Nat} {x : Int} (h : TauI N es ls S R k) (hx : R[k]? = some x) (hN : ∀ e ∈ es, 0 ≤ e.2.2 ∧ e.2.2 < N) : TauI N es ls S (addL R (folV es ls tauB [x])) (k + 1) := by
  have hk : k < R.length := (List.getElem?_eq_some_iff.1 hx).1
  refine ⟨h.beg.addL fun v hv => ?_, fun v hv => ?_, fun j hj y hy v hv => ?_⟩
  · obtain ⟨e, he, -, -, rfl⟩ := folV_mem.1 hv
    exact hN e he
  · rcases addL_mem.1 hv with hv | hv
    · exact h.sound v hv
    · obtain ⟨e, he, h1, h2, rfl⟩ := folV_mem.1 hv
      refine .step ?_ he h2
      rw [List.mem_singleton.1 h1]
      exact h.sound x (List.mem_of_getElem? hx)
  · rw [addL_get (by omega)] at hy
    rcases Nat.lt_or_ge j k with h1 | h1
    · exact addL_mem.2 (.inl (h.closed j h1 y hy v hv))
    · have : j = k := by omega
      subst this
      rw [hx] at hy
      cases hy
      exact addL_mem.2 (.inr hv)
theorem TauI.done {N : Int} {es : List Ed} {ls : List ByteArray} {S R : List Int} {k : Nat} (h : TauI N es ls S R k) (hk : R.length ≤ k) {v : Int} : v ∈ R ↔ TauC es ls (· ∈ S) v := by
  refine ⟨h.sound v, fun hv => ?_⟩
  induction hv with
  | base hv =>
    obtain ⟨T, rfl, -⟩ := h.beg
    exact List.mem_append.2 (.inl hv)
  | step _ he hl ih =>
    obtain ⟨j, hj, e⟩ := List.mem_iff_getElem.1 ih
    exact h.closed j (by omega) _ (List.getElem?_eq_some_iff.2 ⟨hj, e⟩) _ (folV_mem.2 ⟨_, he, List.mem_singleton.2 rfl, hl, rfl⟩)

end Go.Proofs.YtiaclddgllkgpaaGreatDoor
