/-
  Values of expressions, plainly. Conditions: none.
-/
import Derived.Test.YtdjhpdmpibokhaaSeg
namespace Go.Proofs.Ytdjhpdmpibokhaa

def tr (b : Bool) : Int := if b then 1 else 0
/-- The value of an operation. -/
def opF (op a b : Int) : Int :=
  if op = 0 then (a + b) % 64 else if op = 1 then (a - b + 64) % 64 else if op = 2 then a * b % 64 else if op = 3 then tr (a == b) else if op = 4 then tr (a != b)
  else if op = 5 then tr (decide (a < b)) else if op = 6 then tr (decide (a ≤ b)) else if op = 7 then tr (a != 0 && b != 0) else tr (a != 0 || b != 0)
theorem tr_bd (b : Bool) : 0 ≤ tr b ∧ tr b ≤ 63 := by unfold tr; split <;> omega
theorem opF_bd (op a b : Int) : 0 ≤ opF op a b ∧ opF op a b ≤ 63 := by
  unfold opF
  repeat' split
  all_goals first | exact tr_bd _ | omega
theorem mul_bd {a b : Int} (h1 : 0 ≤ a ∧ a ≤ 63) (h2 : 0 ≤ b ∧ b ≤ 63) : 0 ≤ a * b ∧ a * b ≤ 3969 := by
  refine ⟨Int.mul_nonneg h1.1 h2.1, ?_⟩
  have h3 : a * b ≤ 63 * 63 := Int.mul_le_mul h1.2 h2.2 h2.1 (by omega)
  omega

/-- What a term comes to for values of its operands. -/
def fval (vals : List Int) (t : Int × Int) (args : List Int) : Int :=
  if t.1 = 0 then t.2 else if t.1 = 1 then vals.getD t.2.toNat 0 else if t.1 = 3 then tr (args.headD 0 == 0) else opF t.2 (args.headD 0) (args.tail.headD 0)
def valOf (vals : List Int) (e : List (Int × Int)) : Int := sval (fval vals) 0 e

theorem valOf_node {vals : List Int} {d : Nat} {t : Int × Int} {segs : List (List (Int × Int))} (hl : (segs.length : Int) = arity t) (hs : ∀ s ∈ segs, Seg d s) : valOf vals (t :: segs.flatten) = fval vals t (segs.map (valOf vals)) :=
  sval_node (f := fval vals) (z := 0) hl hs

theorem val_bd {vals : List Int} (hv : ∀ x ∈ vals, 0 ≤ x ∧ x ≤ 63) : ∀ (d : Nat) (e : List (Int × Int)), Seg d e → (∀ t ∈ e, okTerm t vals.length = true) → 0 ≤ valOf vals e ∧ valOf vals e ≤ 63 := by
  intro d
  cases d with
  | zero => intro e h; exact h.elim
  | succ d =>
    intro e h hok
    obtain ⟨t, segs, rfl, hl, hs⟩ := h
    rw [valOf_node hl hs]
    have ht := hok t (List.mem_cons_self ..)
    unfold fval
    unfold okTerm at ht
    by_cases h0 : t.1 = 0
    · simp [h0, inB] at ht
      simp [h0]; omega
    · by_cases h1 : t.1 = 1
      · simp [h1, inB] at ht
        rw [if_neg h0, if_pos h1]
        have hlt : t.2.toNat < vals.length := by omega
        rw [List.getD_eq_getElem?_getD, List.getElem?_eq_getElem hlt]
        exact hv _ (List.getElem_mem hlt)
      · rw [if_neg h0, if_neg h1]
        split
        · exact tr_bd _
        · exact opF_bd _ _ _

theorem isLoop_seg {v : Int} : ∀ (m : Nat) (l : List (Int × Int)) (q : Int), l.length ≤ m → 0 ≤ q → isLoop l v q = true → ∃ segs : List (List (Int × Int)), l = segs.flatten ∧ (segs.length : Int) = q ∧ ∀ s ∈ segs, Seg m s := by
  intro m
  induction m with
  | zero =>
    intro l q hm hq h
    have : l = [] := List.eq_nil_of_length_eq_zero (by omega)
    subst this
    simp [isLoop] at h
    subst h
    exact ⟨[], rfl, rfl, fun s hs => absurd hs (by simp)⟩
  | succ m ih =>
    intro l q hm hq h
    cases l with
    | nil =>
      simp [isLoop] at h
      subst h
      exact ⟨[], rfl, rfl, fun s hs => absurd hs (by simp)⟩
    | cons t r =>
      obtain ⟨h1, _, h3⟩ := isLoop_cons h
      have hab := arity_bd t
      simp at hm
      obtain ⟨segs, hr, hl, hs⟩ := ih r _ hm (by omega) h3
      refine ⟨(t :: (segs.take (arity t).toNat).flatten) :: segs.drop (arity t).toNat, ?_, ?_, ?_⟩
      · rw [List.flatten_cons, List.cons_append, ← List.flatten_append, List.take_append_drop, hr]
      · rw [List.length_cons, List.length_drop]; omega
      · intro s hsm
        rcases List.mem_cons.1 hsm with rfl | hsm
        · refine ⟨t, segs.take (arity t).toNat, rfl, ?_, fun s hs' => hs s (List.mem_of_mem_take hs')⟩
          rw [List.length_take]; omega
        · exact (hs s (List.mem_of_mem_drop hsm)).mono _ (by omega)
theorem isTerms_seg {l : List (Int × Int)} {v : Int} (h : isTerms l v 60 = true) : Seg 60 l := by
  have hl := isTerms_len h
  unfold isTerms at h
  split at h
  · cases h
  · obtain ⟨segs, hr, hn, hs⟩ := isLoop_seg 60 l 1 (by omega) (by omega) h
    match segs, hn with
    | [s], _ =>
      have : l = s := by simpa using hr
      rw [this]
      exact hs s (List.mem_singleton.2 rfl)

def dataOk (l : List Int) : Bool := l.all fun x => inB x 0 63
theorem dataOk_bd {l : List Int} (h : dataOk l = true) : ∀ x ∈ l, 0 ≤ x ∧ x ≤ 63 := by
  intro x hx
  have := List.all_eq_true.1 h x hx
  simpa [inB] using this

/-- What Evaluate answers. -/
def evaluateF (l : List (Int × Int)) (vals : List Int) : Int × Int :=
  if 29 < (vals.length : Int) ∨ isTerms l vals.length 60 = false ∨ dataOk vals = false then (0, 1) else (valOf vals l, 0)

theorem okTerm_covered {t : Int × Int} {n : Int} (hn : n ≤ 29) : okTerm t n = (okTerm t 29 && !(decide (t.1 = 1) && decide (n ≤ t.2))) := by
  unfold okTerm
  by_cases h0 : t.1 = 0
  · simp [h0]
  · by_cases h1 : t.1 = 1
    · rw [if_neg h0, if_neg h0, if_pos h1, if_pos h1]
      rw [Bool.eq_iff_iff]
      simp [inB, h1]
      omega
    · simp [h0, h1]
theorem isLoop_covered {n : Int} (hn : n ≤ 29) : ∀ (l : List (Int × Int)) (q : Int), isLoop l n q = (isLoop l 29 q && !(l.any fun t => decide (t.1 = 1) && decide (n ≤ t.2))) := by
  intro l
  induction l with
  | nil => intro q; simp [isLoop]
  | cons t r ih =>
    intro q
    simp only [isLoop, List.any_cons, okTerm_covered hn, ih]
    by_cases hq : q = 0
    · simp [hq]
    · cases h1 : okTerm t 29 <;> cases h2 : (decide (t.1 = 1) && decide (n ≤ t.2)) <;> simp [hq, h1, h2]
theorem isTerms_covered {n : Int} (hn : n ≤ 29) (l : List (Int × Int)) : isTerms l n 60 = (isTerms l 29 60 && !(l.any fun t => decide (t.1 = 1) && decide (n ≤ t.2))) := by
  unfold isTerms
  split
  · rfl
  · exact isLoop_covered hn l 1

end Go.Proofs.Ytdjhpdmpibokhaa
