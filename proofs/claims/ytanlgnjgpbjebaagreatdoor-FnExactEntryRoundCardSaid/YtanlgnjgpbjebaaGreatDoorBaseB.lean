/-
  Several texts in one:
  Places in a formula that is a list of nodes in front of their operands: where parts end, what binds a variable, what stands around a node: plain. Conditions: none.
  Games on graphs: validity, and the program's search for an attractor (a worklist with counts of ways left), as plain mathematics. Conditions: none.
  Games on graphs: sets being filled, and a round of the reference's search for an attractor, as plain mathematics. Conditions: none.
  Games on graphs: the least priority, and one step of the recursive computation of winners in the shapes that the program and the reference use. Conditions: none; plain lists.
  The first choices by which each player wins: what the program and the reference compute, as plain mathematics. Conditions: valid games.
-/
import Derived.Test.YtanlgnjgpbjebaaGreatDoorBaseA
namespace Go.Proofs.YtanlgnjgpbjebaaGreatDoor
set_option linter.unusedVariables false
set_option linter.unusedSimpArgs false

/-- How many parts are still needed. -/
def ndI (q : Nat → Int) : Nat → Int
  | 0 => 1
  | k + 1 => ndI q k + (arityQ (q k) : Int) - 1
theorem AtT.need {q : Nat → Int} {T : Tr} {k : Nat} (h : AtT q T k) : ndI q (k + T.size) = ndI q k - 1 ∧ ∀ i, k ≤ i → i < k + T.size → ndI q k ≤ ndI q i := by
  induction T generalizing k with
  | leaf =>
    have h0 : arityQ (q k) = 0 := h
    refine ⟨?_, fun i h1 h2 => ?_⟩
    · show ndI q k + (arityQ (q k) : Int) - 1 = _
      rw [h0]
      omega
    · have : i = k := by simp only [Tr.size] at h2; omega
      subst this
      exact Int.le_refl _
  | one a ih =>
    have h0 : arityQ (q k) = 1 := h.1
    have hk : ndI q (k + 1) = ndI q k := by
      show ndI q k + (arityQ (q k) : Int) - 1 = _
      rw [h0]; omega
    obtain ⟨g1, g2⟩ := ih h.2
    simp only [Tr.size]
    refine ⟨by rw [show k + (a.size + 1) = k + 1 + a.size by omega, g1, hk], fun i h1 h2 => ?_⟩
    by_cases hi : i = k
    · subst hi; exact Int.le_refl _
    · have := g2 i (by omega) (by omega)
      omega
  | two a b iha ihb =>
    have h0 : arityQ (q k) = 2 := h.1
    have hk : ndI q (k + 1) = ndI q k + 1 := by
      show ndI q k + (arityQ (q k) : Int) - 1 = _
      rw [h0]; omega
    obtain ⟨g1, g2⟩ := iha h.2.1
    obtain ⟨g3, g4⟩ := ihb h.2.2
    simp only [Tr.size]
    refine ⟨by rw [show k + (a.size + b.size + 1) = k + 1 + a.size + b.size by omega, g3, g1, hk]; omega, fun i h1 h2 => ?_⟩
    by_cases hi : i = k
    · subst hi; exact Int.le_refl _
    · by_cases hl : i < k + 1 + a.size
      · have := g2 i (by omega) hl
        omega
      · have := g4 i (by omega) (by omega)
        omega
def AtF (q : Nat → Int) : List Tr → Nat → Nat → Prop
  | [], k, e => k = e
  | T :: l, k, e => AtT q T k ∧ AtF q l (k + T.size) e
theorem forest {q : Nat → Int} {e : Nat} (he : ndI q e = 0) : ∀ (d k : Nat), k + d = e → (∀ i, k ≤ i → i < e → ndI q i ≠ 0) → 0 ≤ ndI q k → ∃ l, AtF q l k e ∧ (l.length : Int) = ndI q k := by
  intro d
  induction d with
  | zero =>
    intro k hk _ _
    have : k = e := by omega
    subst this
    exact ⟨[], rfl, by rw [he]; rfl⟩
  | succ d ih =>
    intro k hk hn h0
    have hk0 := hn k (Nat.le_refl _) (by omega)
    have hk1 : ndI q (k + 1) = ndI q k + (arityQ (q k) : Int) - 1 := rfl
    obtain ⟨l, hl, hc⟩ := ih (k + 1) (by omega) (fun i h1 h2 => hn i (by omega) h2) (by omega)
    have ha : arityQ (q k) = 0 ∨ arityQ (q k) = 1 ∨ arityQ (q k) = 2 := by
      unfold arityQ
      split
      · exact .inr (.inr rfl)
      · split
        · exact .inr (.inl rfl)
        · exact .inl rfl
    rcases ha with ha | ha | ha
    · exact ⟨.leaf :: l, ⟨ha, hl⟩, by rw [List.length_cons]; omega⟩
    · match l, hl, hc with
      | [], _, hc => rw [ha] at hk1; simp at hc; omega
      | T :: l, hl, hc => exact ⟨.one T :: l, ⟨⟨ha, hl.1⟩, by have := hl.2; rwa [show k + 1 + T.size = k + (Tr.one T).size by simp only [Tr.size]; omega] at this⟩, by rw [List.length_cons] at hc ⊢; omega⟩
    · match l, hl, hc with
      | [], _, hc => rw [ha] at hk1; simp at hc; omega
      | [T], _, hc => rw [ha] at hk1; simp at hc; omega
      | T :: U :: l, hl, hc => exact ⟨.two T U :: l, ⟨⟨ha, hl.1, hl.2.1⟩, by have := hl.2.2; rwa [show k + 1 + T.size + U.size = k + (Tr.two T U).size by simp only [Tr.size]; omega] at this⟩, by simp only [List.length_cons] at hc ⊢; omega⟩
theorem tree_of {q : Nat → Int} {n : Nat} (he : ndI q n = 0) (hn : ∀ i, i < n → ndI q i ≠ 0) : ∃ T, AtT q T 0 ∧ T.size = n := by
  obtain ⟨l, hl, hc⟩ := forest he n 0 (by omega) (fun i _ h => hn i h) (by show (0 : Int) ≤ 1; decide)
  have : l.length = 1 := by have : ndI q 0 = 1 := rfl; omega
  match l, this, hl with
  | [T], _, hl => exact ⟨T, hl.1, by have := hl.2; unfold AtF at this; omega⟩

/-! Places -/
theorem sub_range {T : Tr} {k j : Nat} (h1 : k ≤ j) (h2 : j < k + T.size) : j + (subT T k j).size ≤ k + T.size := by
  induction T generalizing k with
  | leaf => have : j = k := by simp only [Tr.size] at h2; omega
            subst this; exact Nat.le_refl _
  | one a ih =>
    unfold subT
    split
    · rename_i e; subst e; exact Nat.le_refl _
    · simp only [Tr.size] at h2 ⊢
      have := ih (k := k + 1) (by omega) (by omega)
      omega
  | two a b iha ihb =>
    unfold subT
    split
    · rename_i e; subst e; exact Nat.le_refl _
    · simp only [Tr.size] at h2 ⊢
      split
      · have := iha (k := k + 1) (by omega) (by omega)
        omega
      · have := ihb (k := k + 1 + a.size) (by omega) (by omega)
        omega
theorem sub_sub {T : Tr} {k j i : Nat} (h1 : k ≤ j) (h2 : j < k + T.size) (g1 : j ≤ i) (g2 : i < j + (subT T k j).size) : subT (subT T k j) j i = subT T k i := by
  induction T generalizing k with
  | leaf => rfl
  | one a ih =>
    by_cases hj : j = k
    · subst hj; rw [subT_self]
    · simp only [Tr.size] at h2
      have e1 : subT (.one a) k j = subT a (k + 1) j := by conv => lhs; unfold subT; rw [if_neg hj]
      have e2 : subT (.one a) k i = subT a (k + 1) i := by conv => lhs; unfold subT; rw [if_neg (by omega)]
      rw [e1] at g2 ⊢
      rw [e2]
      exact ih (by omega) (by omega) g2
  | two a b iha ihb =>
    by_cases hj : j = k
    · subst hj; rw [subT_self]
    · simp only [Tr.size] at h2
      by_cases hl : j < k + 1 + a.size
      · have e1 : subT (.two a b) k j = subT a (k + 1) j := by conv => lhs; unfold subT; rw [if_neg hj, if_pos hl]
        rw [e1] at g2 ⊢
        have := sub_range (T := a) (k := k + 1) (j := j) (by omega) hl
        have e2 : subT (.two a b) k i = subT a (k + 1) i := by conv => lhs; unfold subT; rw [if_neg (by omega), if_pos (by omega)]
        rw [e2]
        exact iha (by omega) (by omega) g2
      · have e1 : subT (.two a b) k j = subT b (k + 1 + a.size) j := by conv => lhs; unfold subT; rw [if_neg hj, if_neg hl]
        rw [e1] at g2 ⊢
        have e2 : subT (.two a b) k i = subT b (k + 1 + a.size) i := by conv => lhs; unfold subT; rw [if_neg (by omega), if_neg (by omega)]
        rw [e2]
        exact ihb (by omega) (by omega) g2
/-- Where the part at a place ends. -/
def endP (T : Tr) (k j : Nat) : Nat := j + (subT T k j).size
/-- The last place of some where something holds; how many there are. -/
def lastP (p : Nat → Bool) (k : Nat) : Nat → Option Nat
  | 0 => none
  | n + 1 => if p (k + n) then some (k + n) else lastP p k n
def cntP (p : Nat → Bool) (k : Nat) : Nat → Nat
  | 0 => 0
  | n + 1 => cntP p k n + if p (k + n) then 1 else 0
theorem lastP_congr {p p' : Nat → Bool} {k n : Nat} (h : ∀ i, k ≤ i → i < k + n → p i = p' i) : lastP p k n = lastP p' k n := by
  induction n with
  | zero => rfl
  | succ n ih => unfold lastP; rw [h (k + n) (by omega) (by omega), ih fun i h1 h2 => h i h1 (by omega)]
theorem cntP_congr {p p' : Nat → Bool} {k n : Nat} (h : ∀ i, k ≤ i → i < k + n → p i = p' i) : cntP p k n = cntP p' k n := by
  induction n with
  | zero => rfl
  | succ n ih => unfold cntP; rw [h (k + n) (by omega) (by omega), ih fun i h1 h2 => h i h1 (by omega)]
theorem lastP_add (p : Nat → Bool) (k m n : Nat) : lastP p k (m + n) = match lastP p (k + m) n with | some i => some i | none => lastP p k m := by
  induction n with
  | zero => rfl
  | succ n ih =>
    show (if p (k + (m + n)) then some (k + (m + n)) else lastP p k (m + n)) = match (if p (k + m + n) then some (k + m + n) else lastP p (k + m) n) with | some i => some i | none => lastP p k m
    rw [← Nat.add_assoc]
    split
    · rfl
    · exact ih
theorem cntP_add (p : Nat → Bool) (k m n : Nat) : cntP p k (m + n) = cntP p k m + cntP p (k + m) n := by
  induction n with
  | zero => rfl
  | succ n ih =>
    show cntP p k (m + n) + (if p (k + (m + n)) then 1 else 0) = _ + (cntP p (k + m) n + (if p (k + m + n) then 1 else 0))
    rw [ih, ← Nat.add_assoc k m n, Nat.add_assoc]
theorem lastP_none {p : Nat → Bool} {k n : Nat} (h : ∀ i, k ≤ i → i < k + n → p i = false) : lastP p k n = none := by
  induction n with
  | zero => rfl
  | succ n ih => unfold lastP; rw [h (k + n) (by omega) (by omega), ih fun i h1 h2 => h i h1 (by omega)]; rfl
theorem cntP_none {p : Nat → Bool} {k n : Nat} (h : ∀ i, k ≤ i → i < k + n → p i = false) : cntP p k n = 0 := by
  induction n with
  | zero => rfl
  | succ n ih => unfold cntP; rw [h (k + n) (by omega) (by omega), ih fun i h1 h2 => h i h1 (by omega)]; rfl
theorem lastP_some {p : Nat → Bool} {k n i : Nat} (h : lastP p k n = some i) : k ≤ i ∧ i < k + n ∧ p i = true := by
  induction n with
  | zero => cases h
  | succ n ih =>
    unfold lastP at h
    split at h
    · rename_i hp; cases h; exact ⟨by omega, by omega, hp⟩
    · have := ih h; exact ⟨this.1, by omega, this.2.2⟩
/-- A test at each place that holds at most where the part at the place has another one within. -/
def inP (T : Tr) (k : Nat) (c : Nat → Bool) (j i : Nat) : Bool := c i && decide (j < endP T k i)
section
variable {M : Sy} {c : Nat → Bool}
theorem inP_one {a : Tr} {k i j : Nat} (hi : k + 1 ≤ i) : inP (.one a) k c j i = inP a (k + 1) c j i := by
  unfold inP endP; rw [show subT (.one a) k i = subT a (k + 1) i by (conv => lhs; unfold subT); rw [if_neg (by omega)]]
theorem inP_left {a b : Tr} {k i j : Nat} (hi : k + 1 ≤ i) (h : i < k + 1 + a.size) : inP (.two a b) k c j i = inP a (k + 1) c j i := by
  unfold inP endP; rw [show subT (.two a b) k i = subT a (k + 1) i by (conv => lhs; unfold subT); rw [if_neg (by omega), if_pos h]]
theorem inP_right {a b : Tr} {k i j : Nat} (h : k + 1 + a.size ≤ i) : inP (.two a b) k c j i = inP b (k + 1 + a.size) c j i := by
  unfold inP endP; rw [show subT (.two a b) k i = subT b (k + 1 + a.size) i by (conv => lhs; unfold subT); rw [if_neg (by omega), if_neg (by omega)]]
theorem inP_self {T : Tr} {k j : Nat} (h : j < k + T.size) : inP T k c j k = c k := by
  unfold inP endP; rw [subT_self, decide_eq_true h, Bool.and_true]
theorem inP_over {a b : Tr} {k i j : Nat} (hi : k + 1 ≤ i) (h : i < k + 1 + a.size) (hj : k + 1 + a.size ≤ j) : inP (.two a b) k c j i = false := by
  rw [inP_left hi h]
  have := sub_range (T := a) (k := k + 1) (j := i) hi h
  unfold inP endP
  rw [decide_eq_false (by omega), Bool.and_false]
/-- The last place before j in whose part j lies, step by step down the tree. -/
theorem last_one {a : Tr} {k j : Nat} (h1 : k + 1 ≤ j) (h2 : j < k + 1 + a.size) : lastP (inP (.one a) k c j) k (j - k) = match lastP (inP a (k + 1) c j) (k + 1) (j - (k + 1)) with | some i => some i | none => if c k then some k else none := by
  have e1 : j - k = 1 + (j - (k + 1)) := by omega
  rw [e1, lastP_add, lastP_congr (p' := inP a (k + 1) c j) fun i g1 g2 => inP_one g1]
  have e2 : lastP (inP (.one a) k c j) k 1 = if c k then some k else none := by
    show (if inP (.one a) k c j (k + 0) then some (k + 0) else none) = _
    rw [Nat.add_zero, inP_self (by simp only [Tr.size]; omega)]
  rw [e2]
theorem last_left {a b : Tr} {k j : Nat} (hc : c k = false) (h1 : k + 1 ≤ j) (h2 : j < k + 1 + a.size) : lastP (inP (.two a b) k c j) k (j - k) = lastP (inP a (k + 1) c j) (k + 1) (j - (k + 1)) := by
  have e1 : j - k = 1 + (j - (k + 1)) := by omega
  rw [e1, lastP_add, lastP_congr (p' := inP a (k + 1) c j) fun i g1 g2 => inP_left g1 (by omega)]
  have e2 : lastP (inP (.two a b) k c j) k 1 = none := by
    show (if inP (.two a b) k c j (k + 0) then some (k + 0) else none) = _
    rw [Nat.add_zero, inP_self (by simp only [Tr.size]; omega), hc]; rfl
  rw [e2]
  split
  · rename_i h; exact h.symm
  · rename_i h; exact h.symm
theorem last_right {a b : Tr} {k j : Nat} (hc : c k = false) (h1 : k + 1 + a.size ≤ j) (h2 : j < k + 1 + a.size + b.size) : lastP (inP (.two a b) k c j) k (j - k) = lastP (inP b (k + 1 + a.size) c j) (k + 1 + a.size) (j - (k + 1 + a.size)) := by
  have e1 : j - k = (1 + a.size) + (j - (k + 1 + a.size)) := by omega
  rw [e1, lastP_add, ← Nat.add_assoc, lastP_congr (p' := inP b (k + 1 + a.size) c j) fun i g1 g2 => inP_right g1]
  have e2 : lastP (inP (.two a b) k c j) k (1 + a.size) = none := lastP_none fun i g1 g2 => by
    by_cases hi : i = k
    · subst hi; rw [inP_self (by simp only [Tr.size]; omega), hc]
    · exact inP_over (by omega) (by omega) h1
  rw [e2]
  split
  · rename_i h; exact h.symm
  · rename_i h; exact h.symm
theorem fx_two {k : Nat} (h : arityQ (M.q k) = 2) : isFx (M.q k) = false := by
  cases e : isFx (M.q k) with
  | false => rfl
  | true => rw [arity_fx e] at h; cases h
/-- What binds a variable is the last fixed point of its name around it. -/
theorem bnd_last {T : Tr} {k j : Nat} (hA : AtT M.q T k) (h1 : k ≤ j) (h2 : j < k + T.size) : bndT M T k j = lastP (inP T k (fun i => isFx (M.q i) && decide (M.v i = M.v j)) j) k (j - k) := by
  induction T generalizing k with
  | leaf =>
    have : j = k := by simp only [Tr.size] at h2; omega
    subst this
    rw [Nat.sub_self]; rfl
  | one a ih =>
    by_cases hj : j = k
    · subst hj
      unfold bndT
      rw [if_pos rfl, Nat.sub_self]; rfl
    · simp only [Tr.size] at h2
      rw [last_one (by omega) (by omega), ← ih hA.2 (by omega) (by omega)]
      conv => lhs; unfold bndT
      rw [if_neg hj]
      simp only [Bool.and_eq_true, decide_eq_true_eq]
      cases bndT M a (k + 1) j <;> rfl
  | two a b iha ihb =>
    by_cases hj : j = k
    · subst hj
      unfold bndT
      rw [if_pos rfl, Nat.sub_self]; rfl
    · simp only [Tr.size] at h2
      have hc : (fun i => isFx (M.q i) && decide (M.v i = M.v j)) k = false := by dsimp only; rw [fx_two hA.1]; rfl
      unfold bndT
      rw [if_neg hj]
      split
      · rw [last_left hc (by omega) (by omega), ← iha hA.2.1 (by omega) (by omega)]
      · rw [last_right hc (by omega) (by omega), ← ihb hA.2.2 (by omega) (by omega)]
/-- The kind of the fixed point around a node. -/
theorem ar_last {T : Tr} {k j : Nat} {q : Int} (hA : AtT M.q T k) (h1 : k ≤ j) (h2 : j < k + T.size) : arT M T k q j = match lastP (inP T k (fun i => isFx (M.q i)) j) k (j - k) with | some i => M.q i | none => q := by
  induction T generalizing k q with
  | leaf =>
    have : j = k := by simp only [Tr.size] at h2; omega
    subst this
    rw [Nat.sub_self]; rfl
  | one a ih =>
    by_cases hj : j = k
    · subst hj
      unfold arT
      rw [if_pos rfl, Nat.sub_self]; rfl
    · simp only [Tr.size] at h2
      rw [last_one (by omega) (by omega)]
      unfold arT
      rw [if_neg hj, ih hA.2 (by omega) (by omega)]
      cases lastP (inP a (k + 1) (fun i => isFx (M.q i)) j) (k + 1) (j - (k + 1)) with
      | some i => rfl
      | none => dsimp only; split <;> rfl
  | two a b iha ihb =>
    by_cases hj : j = k
    · subst hj
      unfold arT
      rw [if_pos rfl, Nat.sub_self]; rfl
    · simp only [Tr.size] at h2
      have hc : (fun i => isFx (M.q i)) k = false := fx_two hA.1
      unfold arT
      rw [if_neg hj]
      split
      · rw [last_left hc (by omega) (by omega), ← iha hA.2.1 (by omega) (by omega)]
      · rw [last_right hc (by omega) (by omega), ← ihb hA.2.2 (by omega) (by omega)]
/-- How many fixed points stand around a node. -/
theorem dep_cnt {T : Tr} {k j : Nat} (hA : AtT M.q T k) (h1 : k ≤ j) (h2 : j < k + T.size) : depT M T k j = cntP (inP T k (fun i => isFx (M.q i)) j) k (j - k) + (if isFx (M.q j) then 1 else 0) := by
  induction T generalizing k with
  | leaf =>
    have : j = k := by simp only [Tr.size] at h2; omega
    subst this
    have h0 : arityQ (M.q j) = 0 := hA
    have hf : isFx (M.q j) = false := by
      cases e : isFx (M.q j) with
      | false => rfl
      | true => rw [arity_fx e] at h0; cases h0
    rw [Nat.sub_self, hf]; rfl
  | one a ih =>
    by_cases hj : j = k
    · subst hj
      unfold depT
      rw [if_pos rfl, Nat.sub_self]
      show _ = 0 + _
      omega
    · simp only [Tr.size] at h2
      unfold depT
      rw [if_neg hj, ih hA.2 (by omega) (by omega)]
      have e1 : j - k = 1 + (j - (k + 1)) := by omega
      rw [e1, cntP_add, cntP_congr (k := k + 1) (p' := inP a (k + 1) (fun i => isFx (M.q i)) j) fun i g1 g2 => inP_one g1]
      have e2 : cntP (inP (.one a) k (fun i => isFx (M.q i)) j) k 1 = if isFx (M.q k) then 1 else 0 := by
        show 0 + (if inP (.one a) k _ j (k + 0) then 1 else 0) = _
        rw [Nat.add_zero, inP_self (by simp only [Tr.size]; omega), Nat.zero_add]
      rw [e2, Nat.add_assoc]
  | two a b iha ihb =>
    by_cases hj : j = k
    · subst hj
      unfold depT
      rw [if_pos rfl, Nat.sub_self, fx_two hA.1]; rfl
    · simp only [Tr.size] at h2
      have hc : isFx (M.q k) = false := fx_two hA.1
      have e0 : cntP (inP (.two a b) k (fun i => isFx (M.q i)) j) k 1 = 0 := by
        show 0 + (if inP (.two a b) k _ j (k + 0) then 1 else 0) = _
        rw [Nat.add_zero, inP_self (by simp only [Tr.size]; omega), hc]; rfl
      unfold depT
      rw [if_neg hj]
      split
      · have e1 : j - k = 1 + (j - (k + 1)) := by omega
        rw [e1, cntP_add, e0, cntP_congr (p' := inP a (k + 1) (fun i => isFx (M.q i)) j) fun i g1 g2 => inP_left g1 (by omega), iha hA.2.1 (by omega) (by omega), Nat.zero_add]
      · have e1 : j - k = (1 + a.size) + (j - (k + 1 + a.size)) := by omega
        rw [e1, cntP_add, ← Nat.add_assoc k 1 a.size, cntP_congr (k := k + 1 + a.size) (p' := inP b (k + 1 + a.size) (fun i => isFx (M.q i)) j) fun i g1 g2 => inP_right g1, ihb hA.2.2 (by omega) (by omega)]
        have e2 : cntP (inP (.two a b) k (fun i => isFx (M.q i)) j) k (1 + a.size) = 0 := cntP_none fun i g1 g2 => by
          by_cases hi : i = k
          · subst hi; rw [inP_self (by simp only [Tr.size]; omega), hc]
          · exact inP_over (by omega) (by omega) (by omega)
        rw [e2, Nat.zero_add]
/-- Seen from a part: first what stands around within it. -/
theorem last_sub {T : Tr} {k j i : Nat} (h1 : k ≤ j) (h2 : j < k + T.size) (g1 : j ≤ i) (g2 : i < endP T k j) : lastP (inP T k c i) k (i - k) = match lastP (inP (subT T k j) j c i) j (i - j) with | some b => some b | none => lastP (inP T k c i) k (j - k) := by
  have e1 : i - k = (j - k) + (i - j) := by omega
  rw [e1, lastP_add, show k + (j - k) = j by omega, lastP_congr (p' := inP (subT T k j) j c i) fun b h3 h4 => ?_]
  unfold inP endP
  unfold endP at g2
  rw [sub_sub h1 h2 h3 (by omega)]
/-- A free variable is one that nothing binds. -/
theorem free_bnd {T : Tr} {k : Nat} {u : Int} (hA : AtT M.q T k) (h : free M T k u) : ∃ i, k ≤ i ∧ i < k + T.size ∧ arityQ (M.q i) = 0 ∧ M.q i ≠ 0 ∧ M.q i ≠ 1 ∧ M.v i = u ∧ bndT M T k i = none := by
  induction T generalizing k with
  | leaf => exact ⟨k, Nat.le_refl _, by simp only [Tr.size]; omega, hA, h.1, h.2.1, h.2.2.symm, rfl⟩
  | one a ih =>
    obtain ⟨i, g1, g2, g3, g4, g5, g6, g7⟩ := ih hA.2 h.1
    refine ⟨i, by omega, by simp only [Tr.size]; omega, g3, g4, g5, g6, ?_⟩
    unfold bndT
    rw [if_neg (by omega), g7]
    dsimp only
    rw [if_neg]
    rintro ⟨c1, c2⟩
    rcases h.2 with h3 | h3
    · unfold isFx at c1
      simp only [Bool.or_eq_true, decide_eq_true_eq] at c1
      omega
    · exact h3 (by rw [← g6, c2])
  | two a b iha ihb =>
    rcases h with h | h
    · obtain ⟨i, g1, g2, g3⟩ := iha hA.2.1 h
      refine ⟨i, by omega, by simp only [Tr.size]; omega, ?_⟩
      unfold bndT
      rw [if_neg (by omega), if_pos g2]
      exact g3
    · obtain ⟨i, g1, g2, g3⟩ := ihb hA.2.2 h
      refine ⟨i, by omega, by simp only [Tr.size]; omega, ?_⟩
      unfold bndT
      rw [if_neg (by omega), if_neg (by omega)]
      exact g3
/-- Where no variable of a part is bound before it, none is free. -/
theorem closed_free {T : Tr} {k j : Nat} (hA : AtT M.q T k) (h1 : k ≤ j) (h2 : j < k + T.size) (h : ∀ i, j ≤ i → i < endP T k j → arityQ (M.q i) = 0 → M.q i ≠ 0 → M.q i ≠ 1 → ∃ b, bndT M T k i = some b ∧ j ≤ b) (u : Int) : ¬ free M (subT T k j) j u := fun hf => by
  obtain ⟨i, g1, g2, g3, g4, g5, g6, g7⟩ := free_bnd (hA.sub h1 h2) hf
  obtain ⟨b, e, hb⟩ := h i g1 g2 g3 g4 g5
  have hr := sub_range (T := T) (k := k) (j := j) h1 h2
  rw [bnd_last hA (by omega) (by omega), last_sub h1 h2 g1 g2, ← bnd_last (hA.sub h1 h2) g1 g2, g7] at e
  have := lastP_some e
  omega
end

end Go.Proofs.YtanlgnjgpbjebaaGreatDoor

namespace Go.Proofs.YtanlgnjgpbjebaaGreatDoor
set_option linter.unusedVariables false

/-- Strictly increasing numbers from 0 on and below m. -/
def Inc (m : Int) (l : List Int) : Prop := (∀ x, x ∈ l → 0 ≤ x ∧ x < m) ∧ l.Pairwise (· < ·)
instance (m : Int) (l : List Int) : Decidable (Inc m l) := by unfold Inc; infer_instance
theorem Inc.nil_ (m : Int) : Inc m [] := ⟨fun _ h => (List.not_mem_nil h).elim, List.Pairwise.nil⟩
theorem Inc.take {m : Int} {l : List Int} (h : Inc m l) (k : Nat) : Inc m (l.take k) :=
  ⟨fun x hx => h.1 x (List.mem_of_mem_take hx), h.2.sublist (List.take_sublist k l)⟩
theorem Inc.one {m : Int} {l : List Int} {x : Int} (hx : l[0]? = some x) (hb : 0 ≤ x ∧ x < m) : Inc m (l.take 1) := by
  rw [List.take_add_one, hx]
  exact ⟨fun y hy => by simp at hy; subst hy; exact hb, by simp⟩
theorem Inc.step {m : Int} {l : List Int} {k : Nat} {x y : Int} (h : Inc m (l.take (k + 1))) (hx : l[k]? = some x) (hy : l[k + 1]? = some y) (hb : 0 ≤ y ∧ y < m) (hlt : x < y) : Inc m (l.take (k + 1 + 1)) := by
  rw [List.take_add_one, hy]
  refine ⟨fun z hz => ?_, List.pairwise_append.2 ⟨h.2, by simp, fun a ha b hb' => ?_⟩⟩
  · rcases List.mem_append.1 hz with hz | hz
    · exact h.1 z hz
    · simp at hz; subst hz; exact hb
  · simp at hb'
    subst hb'
    have hle : a ≤ x := by
      have hp := h.2
      rw [List.take_add_one, hx] at hp ha
      rcases List.mem_append.1 ha with ha | ha
      · exact Int.le_of_lt ((List.pairwise_append.1 hp).2.2 a ha x (by simp))
      · simp at ha; omega
    show a < b
    omega
theorem Inc.nodup {m : Int} {l : List Int} (h : Inc m l) : l.Nodup := h.2.imp fun h => by omega
theorem Inc.at_ {m : Int} {l : List Int} {k : Nat} {x : Int} (h : Inc m l) (hx : l[k]? = some x) : 0 ≤ x ∧ x < m := h.1 x (List.mem_of_getElem? hx)

/-- One vertex among many is valid. -/
def VxOk (m : Int) (x : Vx) : Prop := (0 ≤ x.1 ∧ x.1 ≤ 1) ∧ (0 ≤ x.2.1 ∧ x.2.1 ≤ 9) ∧ Inc m x.2.2
instance (m : Int) (x : Vx) : Decidable (VxOk m x) := by unfold VxOk; infer_instance
/-- A game is valid. -/
def GameOk (g : DV) : Prop := (1 ≤ g.length ∧ g.length ≤ 120) ∧ ∀ x, x ∈ g → VxOk g.length x
instance (g : DV) : Decidable (GameOk g) := by unfold GameOk; infer_instance

section
variable {g : DV}
theorem GameOk.at_ (h : GameOk g) {v : Nat} {o p : Int} {l : List Int} (hx : g[v]? = some (o, p, l)) : (0 ≤ o ∧ o ≤ 1) ∧ (0 ≤ p ∧ p ≤ 9) ∧ Inc g.length l := h.2 _ (List.mem_of_getElem? hx)
theorem gx (g : DV) {v : Nat} (hv : v < g.length) : ∃ o p l, g[v]? = some (o, p, l) ∧ gOwn g v = o ∧ gPri g v = p ∧ gNxt g v = l.map Int.toNat := by
  obtain ⟨⟨o, p, l⟩, hx⟩ : ∃ x, g[v]? = some x := ⟨_, List.getElem?_eq_getElem hv⟩
  exact ⟨o, p, l, hx, gOwn_at hx, gPri_at hx, gNxt_at hx⟩
theorem gNxt_big {v : Nat} (hv : g.length ≤ v) : gNxt g v = [] := by unfold gNxt; rw [List.getElem?_eq_none hv]; rfl
theorem GameOk.owned (h : GameOk g) : Owned g := fun v hv => by
  obtain ⟨o, p, l, hx, e, _⟩ := gx g hv
  have := (h.at_ hx).1
  omega
theorem GameOk.pri (h : GameOk g) {v : Nat} (hv : v < g.length) : 0 ≤ gPri g v ∧ gPri g v ≤ 9 := by
  obtain ⟨o, p, l, hx, _, e, _⟩ := gx g hv
  have := (h.at_ hx).2.1
  omega
theorem inc_nat {m : Int} {l : List Int} (h : Inc m l) : (l.map Int.toNat).Nodup ∧ (∀ u, u ∈ l.map Int.toNat ↔ (u : Int) ∈ l) ∧ ∀ u, u ∈ l.map Int.toNat → (u : Int) < m := by
  have h2 : ∀ u, u ∈ l.map Int.toNat ↔ (u : Int) ∈ l := fun u => by
    rw [List.mem_map]
    constructor
    · rintro ⟨x, hx, rfl⟩
      have := (h.1 x hx).1
      rw [Int.toNat_of_nonneg this]
      exact hx
    · intro hu
      exact ⟨_, hu, by omega⟩
  refine ⟨?_, h2, fun u hu => (h.1 _ ((h2 u).1 hu)).2⟩
  unfold List.Nodup
  rw [List.pairwise_map]
  refine List.Pairwise.imp_of_mem ?_ h.2
  intro a b ha hb hab
  have := (h.1 a ha).1
  omega
theorem GameOk.nxt (h : GameOk g) (v : Nat) : (gNxt g v).Nodup ∧ ∀ u, u ∈ gNxt g v → u < g.length := by
  by_cases hv : v < g.length
  · obtain ⟨o, p, l, hx, _, _, e⟩ := gx g hv
    have := inc_nat (h.at_ hx).2.2
    rw [e]
    exact ⟨this.1, fun u hu => by have := this.2.2 u hu; omega⟩
  · rw [gNxt_big (by omega)]
    exact ⟨List.Pairwise.nil, fun _ h => (List.not_mem_nil h).elim⟩
/-- The same for larger games. -/
def GameBig (g : DV) : Prop := (1 ≤ g.length ∧ g.length ≤ 1200) ∧ ∀ x, x ∈ g → (0 ≤ x.1 ∧ x.1 ≤ 1) ∧ (0 ≤ x.2.1 ∧ x.2.1 ≤ 1000) ∧ Inc g.length x.2.2
theorem GameBig.at_ (h : GameBig g) {v : Nat} {o p : Int} {l : List Int} (hx : g[v]? = some (o, p, l)) : (0 ≤ o ∧ o ≤ 1) ∧ (0 ≤ p ∧ p ≤ 1000) ∧ Inc g.length l := h.2 _ (List.mem_of_getElem? hx)
theorem GameBig.owned (h : GameBig g) : Owned g := fun v hv => by
  obtain ⟨o, p, l, hx, e, _⟩ := gx g hv
  have := (h.at_ hx).1
  omega
theorem GameBig.pri (h : GameBig g) {v : Nat} (hv : v < g.length) : 0 ≤ gPri g v ∧ gPri g v ≤ 1000 := by
  obtain ⟨o, p, l, hx, _, e, _⟩ := gx g hv
  have := (h.at_ hx).2.1
  omega
theorem GameBig.nxt (h : GameBig g) (v : Nat) : (gNxt g v).Nodup ∧ ∀ u, u ∈ gNxt g v → u < g.length := by
  by_cases hv : v < g.length
  · obtain ⟨o, p, l, hx, _, _, e⟩ := gx g hv
    have := inc_nat (h.at_ hx).2.2
    rw [e]
    exact ⟨this.1, fun u hu => by have := this.2.2 u hu; omega⟩
  · rw [gNxt_big (by omega)]
    exact ⟨List.Pairwise.nil, fun _ h => (List.not_mem_nil h).elim⟩
theorem gNxt_src {v u : Nat} (h : u ∈ gNxt g v) : v < g.length := by
  rcases Nat.lt_or_ge v g.length with h1 | h1
  · exact h1
  · rw [gNxt_big h1] at h; cases h
end

theorem filter_one {p q : Nat → Bool} {k : Nat} : ∀ {l : List Nat}, l.Nodup → k ∈ l → p k = true → q k = false → (∀ u, u ≠ k → p u = q u) → (l.filter p).length = (l.filter q).length + 1 := by
  intro l
  induction l with
  | nil => intro _ h; cases h
  | cons x l ih =>
    intro hn hk hp hq he
    rw [List.nodup_cons] at hn
    by_cases e : x = k
    · subst e
      have : l.filter p = l.filter q := List.filter_congr fun u hu => he u fun e => hn.1 (e ▸ hu)
      simp [List.filter_cons, hp, hq, this]
    · have hk' : k ∈ l := by
        rcases List.mem_cons.1 hk with h | h
        · exact absurd h.symm e
        · exact h
      have := ih hn.2 hk' hp hq he
      simp only [List.filter_cons, he x e]
      split <;> simp [this]
/-- Different numbers below n are at most n. -/
theorem nodup_le : ∀ (n : Nat) (l : List Nat), l.Nodup → (∀ x, x ∈ l → x < n) → l.length ≤ n := by
  intro n
  induction n with
  | zero =>
    intro l _ h
    cases l with
    | nil => exact Nat.le_refl _
    | cons x l => exact absurd (h x (by simp)) (by omega)
  | succ n ih =>
    intro l hn h
    have h1 := ih (l.erase n) (hn.erase n) fun x hx => by
      have h2 := h x (List.mem_of_mem_erase hx)
      have : x ≠ n := by
        rintro rfl
        exact (List.Nodup.not_mem_erase hn) hx
      omega
    have h2 := List.length_erase (a := n) (l := l)
    split at h2 <;> omega
/-- The ways from v to vertices alive. -/
def exitsF (g : DV) (alive : List Bool) (v : Nat) : Nat := ((gNxt g v).filter (inS alive)).length
/-- .. of those not yet taken. -/
def cntL (g : DV) (alive P : List Bool) (v : Nat) : Nat := ((gNxt g v).filter fun u => inS alive u && !inS P u).length

/-- What the count of a vertex says. -/
def CondL (g : DV) (alive : List Bool) (player : Int) (out P : List Bool) (f : Int → Option Int) (b : Nat) : Prop :=
  inS alive b = true → inS out b = false →
    (gOwn g b = player → ∀ u, u ∈ gNxt g b → inS alive u = true → inS P u = false) ∧
    (gOwn g b ≠ player → (f b = none → ∀ u, u ∈ gNxt g b → inS alive u = true → inS P u = false) ∧ ∀ c, f b = some c → c = (cntL g alive P b : Int) ∧ 0 < c)

/-- The state of the search: out is what has been found, P what has been taken from todo, rest the vertices ahead of k that have not been looked at yet. -/
structure AttrI (g : DV) (alive : List Bool) (player : Int) (set out P : List Bool) (todo : List Int) (f : Int → Option Int) (k : Nat) (rest : List Int) : Prop where
  bet : Between g alive player set out
  plen : P.length = g.length
  sub : ∀ v, inS P v = true → inS out v = true
  nodup : todo.Nodup
  rnd : rest.Nodup
  mem : ∀ t : Int, t ∈ todo ↔ ∃ v : Nat, t = v ∧ inS out v = true ∧ inS P v = false
  cond : ∀ b : Nat, CondL g alive player out (if (b : Int) ∈ rest then P.set k false else P) f b

/-- The indices at which a set holds. -/
def idxOf (s : List Bool) : List Int := ((List.range s.length).filter (inS s)).map Int.ofNat
theorem mem_idx {s : List Bool} {t : Int} : t ∈ idxOf s ↔ ∃ v : Nat, t = v ∧ inS s v = true := by
  unfold idxOf
  rw [List.mem_map]
  constructor
  · rintro ⟨v, hv, rfl⟩; exact ⟨v, rfl, (List.mem_filter.1 hv).2⟩
  · rintro ⟨v, rfl, hv⟩; exact ⟨v, List.mem_filter.2 ⟨List.mem_range.2 (inS_lt hv), hv⟩, rfl⟩
theorem idx_nodup (s : List Bool) : (idxOf s).Nodup := by
  unfold idxOf List.Nodup
  rw [List.pairwise_map]
  exact (List.Pairwise.imp (fun h e => h (Int.ofNat.inj e)) (List.nodup_range.filter _))
theorem idx_len (s : List Bool) : (idxOf s).length ≤ s.length := by
  unfold idxOf
  rw [List.length_map]
  exact Nat.le_trans (List.length_filter_le _ _) (by simp)

section
variable {g : DV} {alive set out P : List Bool} {player : Int} {todo rest : List Int} {f : Int → Option Int} {k : Nat}

theorem AttrI.start (hl : set.length = g.length) (k : Nat) : AttrI g alive player set set (setOf g.length fun _ => false) (idxOf set) (fun _ => none) k [] := by
  have hP : ∀ v, inS (setOf g.length fun _ => false) v = false := fun v => by rw [inS_setOf]; simp
  refine ⟨.start hl, setOf_len _ _, fun v h => (by rw [hP] at h; cases h), idx_nodup _, List.nodup_nil, fun t => ?_, fun b _ _ => ⟨fun _ u _ _ => ?_, fun _ => ⟨fun _ u _ _ => ?_, fun c h => by cases h⟩⟩⟩
  · rw [mem_idx]
    constructor
    · rintro ⟨v, h1, h2⟩; exact ⟨v, h1, h2, hP v⟩
    · rintro ⟨v, h1, h2, _⟩; exact ⟨v, h1, h2⟩
  · simp [hP]
  · simp [hP]

/-- How many are waiting. -/
theorem AttrI.todo_le (h : AttrI g alive player set out P todo f k rest) : todo.length ≤ g.length := by
  have : ∀ (t : List Int) (n : Nat), t.Nodup → (∀ x, x ∈ t → 0 ≤ x ∧ x < n) → t.length ≤ n := by
    intro t n ht hx
    have h1 : (t.map Int.toNat).Nodup := by
      unfold List.Nodup
      rw [List.pairwise_map]
      refine List.Pairwise.imp_of_mem ?_ ht
      intro a b ha hb hab e
      have := (hx a ha).1
      have := (hx b hb).1
      omega
    have h2 := nodup_le n _ h1 fun y hy => by
      obtain ⟨x, hx', rfl⟩ := List.mem_map.1 hy
      have := hx x hx'
      omega
    simpa using h2
  refine this todo g.length h.nodup fun x hx => ?_
  obtain ⟨v, rfl, h1, _⟩ := (h.mem x).1 hx
  have := inS_lt h1
  rw [h.bet.len] at this
  omega

/-- The vertex taken from todo. -/
theorem AttrI.head {t : Int} (h : AttrI g alive player set out P (t :: todo) f k []) : ∃ v : Nat, t = v ∧ v < g.length ∧ inS out v = true ∧ inS P v = false := by
  obtain ⟨v, h1, h2, h3⟩ := (h.mem t).1 (by simp)
  exact ⟨v, h1, by rw [← h.bet.len]; exact inS_lt h2, h2, h3⟩

theorem set_back {s : List Bool} {k : Nat} (h : inS s k = false) (hk : k < s.length) : (s.set k true).set k false = s := by
  refine inS_ext (by simp) fun v hv => ?_
  rw [inS_set (by simpa using hk), inS_set hk]
  split
  · rename_i e; subst e; exact h.symm
  · rfl

theorem AttrI.pop {v : Nat} (h : AttrI g alive player set out P ((v : Int) :: todo) f k []) {row : List Int} (hnd : row.Nodup) (hrow : ∀ b : Nat, (b : Int) ∈ row ↔ v ∈ gNxt g b) :
    AttrI g alive player set out (P.set v true) todo f v row := by
  obtain ⟨v', e, hv, h2, h3⟩ := h.head
  have e : v' = v := by omega
  subst e
  have hvP : v' < P.length := by rw [h.plen]; exact hv
  have hn := List.nodup_cons.1 h.nodup
  refine ⟨h.bet, by rw [List.length_set]; exact h.plen, fun u hu => ?_, hn.2, hnd, fun t => ?_, fun b => ?_⟩
  · rw [inS_set hvP] at hu
    split at hu
    · rename_i e; subst e; exact h2
    · exact h.sub u hu
  · have hm := h.mem t
    constructor
    · intro ht
      obtain ⟨u, rfl, h5, h6⟩ := hm.1 (List.mem_cons_of_mem _ ht)
      refine ⟨u, rfl, h5, ?_⟩
      rw [inS_set hvP, if_neg]
      · exact h6
      · rintro rfl; exact hn.1 ht
    · rintro ⟨u, rfl, h5, h6⟩
      rw [inS_set hvP] at h6
      split at h6
      · cases h6
      · rename_i hne
        rcases List.mem_cons.1 (hm.2 ⟨u, rfl, h5, h6⟩) with h7 | h7
        · omega
        · exact h7
  · have hc := h.cond b
    simp only [List.not_mem_nil, if_false] at hc
    split
    · rw [set_back h3 hvP]; exact hc
    · rename_i hb
      have hnb : v' ∉ gNxt g b := fun hx => hb ((hrow b).2 hx)
      intro h5 h6
      obtain ⟨c1, c2⟩ := hc h5 h6
      have he : ∀ u, u ∈ gNxt g b → inS (P.set v' true) u = inS P u := fun u hu => by
        rw [inS_set hvP, if_neg]
        rintro rfl; exact hnb hu
      have hcnt : cntL g alive (P.set v' true) b = cntL g alive P b := by
        unfold cntL
        congr 1
        exact List.filter_congr fun u hu => by rw [he u hu]
      refine ⟨fun ho u hu ha => by rw [he u hu]; exact c1 ho u hu ha, fun ho => ⟨fun hf u hu ha => by rw [he u hu]; exact (c2 ho).1 hf u hu ha, fun c hcf => by rw [hcnt]; exact (c2 ho).2 c hcf⟩⟩

theorem mem_later {b x : Nat} {rest : List Int} (e : x ≠ b) : ((x : Int) ∈ ((b : Int) :: rest)) ↔ (x : Int) ∈ rest := by
  rw [List.mem_cons]
  exact ⟨fun h => h.elim (fun h => by omega) id, .inr⟩

/-- A vertex ahead of k is passed over. -/
theorem AttrI.skip {b : Nat} (h : AttrI g alive player set out P todo f k ((b : Int) :: rest)) (hs : inS alive b = false ∨ inS out b = true) : AttrI g alive player set out P todo f k rest := by
  refine ⟨h.bet, h.plen, h.sub, h.nodup, (List.nodup_cons.1 h.rnd).2, h.mem, fun x => ?_⟩
  by_cases e : x = b
  · subst e
    intro h1 h2
    rcases hs with hs | hs
    · rw [hs] at h1; cases h1
    · rw [hs] at h2; cases h2
  · have := h.cond x
    have e2 : ((x : Int) ∈ ((b : Int) :: rest)) ↔ (x : Int) ∈ rest := mem_later e
    simp only [e2] at this
    exact this

/-- A vertex is found. -/
theorem AttrI.add {b : Nat} {f' : Int → Option Int} (h : AttrI g alive player set out P todo f k ((b : Int) :: rest)) (hb : inS out b = false) (hbl : b < g.length) (a : Attr g alive player set b) (hf : ∀ x : Nat, x ≠ b → f' x = f x) :
    AttrI g alive player set (out.set b true) P (todo ++ [(b : Int)]) f' k rest := by
  have hbo : b < out.length := by rw [h.bet.len]; exact hbl
  have hPb : inS P b = false := by
    cases e : inS P b with
    | false => rfl
    | true => rw [h.sub b e] at hb; cases hb
  have hno : (b : Int) ∉ todo := fun hm => by
    obtain ⟨v, e, h1, _⟩ := (h.mem _).1 hm
    have : v = b := by omega
    subst this
    rw [h1] at hb; cases hb
  refine ⟨h.bet.add hbl a, h.plen, fun v hv => ?_, ?_, (List.nodup_cons.1 h.rnd).2, fun t => ?_, fun x => ?_⟩
  · rw [inS_set hbo]
    split
    · rfl
    · exact h.sub v hv
  · exact List.nodup_append.2 ⟨h.nodup, by simp, fun x hx y hy => by simp at hy; subst hy; rintro rfl; exact hno hx⟩
  · rw [List.mem_append, h.mem]
    constructor
    · rintro (⟨v, rfl, h1, h2⟩ | ht)
      · refine ⟨v, rfl, ?_, h2⟩
        rw [inS_set hbo]
        split
        · rfl
        · exact h1
      · simp at ht
        exact ⟨b, ht, by rw [inS_set hbo, if_pos rfl], hPb⟩
    · rintro ⟨v, rfl, h1, h2⟩
      rw [inS_set hbo] at h1
      split at h1
      · rename_i e; subst e; exact .inr (by simp)
      · exact .inl ⟨v, rfl, h1, h2⟩
  · by_cases e : x = b
    · subst e
      intro _ h2
      rw [inS_set hbo, if_pos rfl] at h2
      cases h2
    · have hc := h.cond x
      have e2 : ((x : Int) ∈ ((b : Int) :: rest)) ↔ (x : Int) ∈ rest := mem_later e
      simp only [e2] at hc
      intro h1 h2
      rw [inS_set hbo, if_neg (Ne.symm e)] at h2
      rw [hf x e]
      exact hc h1 h2

/-- .. because it may move to k. -/
theorem AttrI.attr_own {b : Nat} (h : AttrI g alive player set out P todo f k ((b : Int) :: rest)) (hsub : ∀ v, inS set v = true → inS alive v = true) (hk : inS P k = true) (hkb : k ∈ gNxt g b) (ha : inS alive b = true) (ho : gOwn g b = player) : Attr g alive player set b := by
  have hk' := h.bet.to_ k (h.sub k hk)
  exact .own ha ho hkb (hk'.sub hsub) hk'

/-- The count of a vertex of the other player goes down by one. -/
theorem AttrI.count {b : Nat} (h : AttrI g alive player set out P todo f k ((b : Int) :: rest)) (hn : (gNxt g b).Nodup) (hsc : ∀ u, u ∈ gNxt g b → u < g.length) (hsub : ∀ v, inS set v = true → inS alive v = true) (hk : inS P k = true) (hkb : k ∈ gNxt g b) (ha : inS alive b = true) (hb : inS out b = false) (ho : gOwn g b ≠ player) :
    ((f b).getD (exitsF g alive b : Int)) - 1 = (cntL g alive P b : Int) ∧ (∀ c, f b = some c → 0 < c ∧ c ≤ g.length) := by
  have hc := h.cond b
  simp only [List.mem_cons, true_or, if_true] at hc
  have hkP : k < P.length := inS_lt hk
  have hka := (h.bet.to_ k (h.sub k hk)).sub hsub
  obtain ⟨_, c2⟩ := hc ha hb
  obtain ⟨c3, c4⟩ := c2 ho
  have hcnt : cntL g alive (P.set k false) b = cntL g alive P b + 1 := by
    unfold cntL
    refine filter_one hn hkb ?_ ?_ fun u hu => ?_
    · rw [inS_set hkP, if_pos rfl, hka]; rfl
    · rw [hk]; simp
    · rw [inS_set hkP, if_neg (Ne.symm hu)]
  cases hf : f b with
  | none =>
    refine ⟨?_, fun c e => by cases e⟩
    have h1 := c3 hf
    have : exitsF g alive b = cntL g alive (P.set k false) b := by
      unfold exitsF cntL
      congr 1
      exact List.filter_congr fun u hu => by
        cases e : inS alive u with
        | false => rfl
        | true => rw [h1 u hu e]; rfl
    simp only [Option.getD_none]
    omega
  | some c =>
    have h1 := c4 c hf
    refine ⟨by simp only [Option.getD_some]; omega, fun c' e => ?_⟩
    cases e
    refine ⟨h1.2, ?_⟩
    have h2 : cntL g alive (P.set k false) b ≤ g.length := by
      have h3 := nodup_le g.length _ (hn.filter fun u => inS alive u && !inS (P.set k false) u) fun y hy => hsc y (List.mem_filter.1 hy).1
      simpa [cntL] using h3
    omega

/-- It has ways left. -/
theorem AttrI.lower {b : Nat} {c : Int} (h : AttrI g alive player set out P todo f k ((b : Int) :: rest)) (ho : gOwn g b ≠ player) (hc : c = (cntL g alive P b : Int)) (hpos : 0 < c) :
    AttrI g alive player set out P todo (fun x => if x = (b : Int) then some c else f x) k rest := by
  refine ⟨h.bet, h.plen, h.sub, h.nodup, (List.nodup_cons.1 h.rnd).2, h.mem, fun x => ?_⟩
  by_cases e : x = b
  · subst e
    intro h1 h2
    refine ⟨fun h3 => absurd h3 ho, fun _ => ⟨fun h3 => by simp at h3, fun c' h3 => ?_⟩⟩
    simp at h3
    subst h3
    refine ⟨?_, hpos⟩
    rw [hc, if_neg (List.nodup_cons.1 h.rnd).1]
  · have hc := h.cond x
    have e2 : ((x : Int) ∈ ((b : Int) :: rest)) ↔ (x : Int) ∈ rest := mem_later e
    simp only [e2] at hc
    have e3 : (if (x : Int) = (b : Int) then some c else f x) = f x := if_neg (by omega)
    intro h1 h2
    obtain ⟨c1, c2⟩ := hc h1 h2
    refine ⟨c1, fun h3 => ?_⟩
    simp only [e3]
    exact c2 h3

/-- It has none left. -/
theorem AttrI.attr_other {b : Nat} (h : AttrI g alive player set out P todo f k ((b : Int) :: rest)) (hsub : ∀ v, inS set v = true → inS alive v = true) (hk : inS P k = true) (hkb : k ∈ gNxt g b) (ha : inS alive b = true) (ho : gOwn g b ≠ player) (hc : cntL g alive P b = 0) : Attr g alive player set b := by
  have hk' := h.bet.to_ k (h.sub k hk)
  refine .other ha ho hkb (hk'.sub hsub) fun x hx hxa => h.bet.to_ x (h.sub x ?_)
  unfold cntL at hc
  have h1 := List.filter_eq_nil_iff.1 (List.eq_nil_of_length_eq_zero hc) x hx
  simpa [hxa] using h1

/-- Nothing is left to do. -/
theorem AttrI.done (h : AttrI g alive player set out P [] f k []) (hal : alive.length = g.length) : out = attrF g alive player set := by
  have hout : ∀ v, inS out v = inS P v := fun v => by
    cases e : inS out v with
    | false =>
      cases e2 : inS P v with
      | false => rfl
      | true => rw [h.sub v e2] at e; cases e
    | true =>
      cases e2 : inS P v with
      | true => rfl
      | false => exact absurd ((h.mem v).2 ⟨v, rfl, e, e2⟩) (by simp)
  refine h.bet.done (fun v hv h1 h2 => ?_) hal
  have hc := h.cond v
  simp only [List.not_mem_nil, if_false] at hc
  obtain ⟨c1, c2⟩ := hc h1 h2
  refine ⟨fun ho u hu ha => by rw [hout]; exact c1 ho u hu ha, fun ho ⟨u, hu, ha⟩ => ?_⟩
  obtain ⟨c3, c4⟩ := c2 ho
  cases hf : f v with
  | none => exact ⟨u, hu, ha, by rw [hout]; exact c3 hf u hu ha⟩
  | some c =>
    obtain ⟨c5, c6⟩ := c4 c hf
    have hpos : 0 < cntL g alive P v := by omega
    unfold cntL at hpos
    obtain ⟨x, hx⟩ := List.exists_mem_of_length_pos hpos
    obtain ⟨hx1, hx2⟩ := List.mem_filter.1 hx
    simp at hx2
    exact ⟨x, hx1, hx2.1, by rw [hout]; exact hx2.2⟩
end

end Go.Proofs.YtanlgnjgpbjebaaGreatDoor

namespace Go.Proofs.YtanlgnjgpbjebaaGreatDoor
set_option linter.unusedVariables false

/-- Whether a list holds somewhere. -/
def anyS (l : List Bool) : Bool := l.any id
theorem anyS_of {l : List Bool} {k : Nat} (hk : k < l.length) (h : inS l k = true) : anyS l = true := by
  have := inS_get hk
  rw [h] at this
  exact List.any_eq_true.2 ⟨true, List.mem_of_getElem? this, rfl⟩
theorem anyS_false {l : List Bool} (h : ∀ k, k < l.length → inS l k = false) : anyS l = false := by
  unfold anyS
  rw [List.any_eq_false]
  intro x hx
  obtain ⟨i, hi⟩ := List.getElem?_of_mem hx
  have hl := (List.getElem?_eq_some_iff.1 hi).1
  have := inS_some hi
  rw [h i hl] at this
  simp [← this]
theorem anyS_range {l : List Bool} {n : Nat} (hn : l.length = n) : anyS l = (List.range n).any (inS l) := by
  rw [Bool.eq_iff_iff, List.any_eq_true]
  constructor
  · intro h
    obtain ⟨x, hx, hq⟩ := List.any_eq_true.1 h
    obtain ⟨i, hi⟩ := List.getElem?_of_mem hx
    have hl := (List.getElem?_eq_some_iff.1 hi).1
    exact ⟨i, List.mem_range.2 (by omega), by rw [inS_some hi]; exact hq⟩
  · rintro ⟨i, hi, hq⟩
    exact anyS_of (by rw [List.mem_range] at hi; omega) hq

/-- A set of which the first k places are filled. -/
def setK (n k : Nat) (p : Nat → Bool) : List Bool := setOf n fun v => decide (v < k) && p v
theorem setK_len (n k : Nat) (p : Nat → Bool) : (setK n k p).length = n := setOf_len _ _
theorem setK_zero (n : Nat) (p : Nat → Bool) : setK n 0 p = setOf n fun _ => false := setOf_congr fun v _ => by simp
theorem setK_all (n : Nat) (p : Nat → Bool) : setK n n p = setOf n p := setOf_congr fun v hv => by simp [hv]
theorem inS_setK {n k : Nat} {p : Nat → Bool} {v : Nat} : inS (setK n k p) v = (decide (v < n) && (decide (v < k) && p v)) := inS_setOf
theorem setK_step {n k : Nat} {p : Nat → Bool} {b : Bool} (hk : k < n) (hb : b = p k) : (setK n k p).set k b = setK n (k + 1) p := by
  subst hb
  refine inS_ext (by simp [setK_len]) fun v hv => ?_
  rw [List.length_set, setK_len] at hv
  rw [inS_set (by rw [setK_len]; exact hk), inS_setK, inS_setK]
  by_cases e : k = v
  · subst e; simp [hk]
  · have : (v < k) ↔ (v < k + 1) := by omega
    simp [e, hv, this]
/-- A set being changed place by place: the first k done. -/
def setM (s : List Bool) (k : Nat) (p : Nat → Bool) : List Bool := setOf s.length fun v => if v < k then p v else inS s v
theorem setM_len (s : List Bool) (k : Nat) (p : Nat → Bool) : (setM s k p).length = s.length := setOf_len _ _
theorem setM_zero (s : List Bool) (p : Nat → Bool) : setM s 0 p = s := by
  unfold setM
  refine (setOf_congr fun v hv => ?_).trans (setOf_inS rfl)
  simp
theorem setM_all {s : List Bool} {n : Nat} (p : Nat → Bool) (hn : s.length = n) : setM s n p = setOf n p := by
  subst hn
  exact setOf_congr fun v hv => by simp [hv]
theorem inS_setM {s : List Bool} {k : Nat} {p : Nat → Bool} (hk : k < s.length) : inS (setM s k p) k = inS s k := by
  unfold setM; rw [inS_setOf]; simp [hk]
theorem setM_step {s : List Bool} {k : Nat} {p : Nat → Bool} {b : Bool} (hk : k < s.length) (hb : b = p k) : (setM s k p).set k b = setM s (k + 1) p := by
  subst hb
  refine inS_ext (by simp [setM_len]) fun v hv => ?_
  rw [List.length_set, setM_len] at hv
  rw [inS_set (by rw [setM_len]; exact hk)]
  unfold setM
  rw [inS_setOf, inS_setOf]
  by_cases e : k = v
  · subst e; simp [hk]
  · have : (v < k) ↔ (v < k + 1) := by omega
    simp [e, hv, this]
section
variable {alive out : List Bool} {l : List Int} {k : Nat} {x : Int}
end

/-- Where a pass of the reference's search stands: out0 at its beginning, out now, the first k vertices looked at. -/
structure Pass (g : DV) (alive : List Bool) (player : Int) (set out0 out : List Bool) (k : Nat) (more : Bool) : Prop where
  bet : Between g alive player set out
  grows : cntT out0 ≤ cntT out
  no : more = false → out = out0 ∧ ∀ v, v < k → Closed g alive player out0 v
  yes : more = true → cntT out0 < cntT out

section
variable {g : DV} {alive set out0 out : List Bool} {player : Int} {k : Nat} {more : Bool}
theorem Pass.start (h : Between g alive player set out0) : Pass g alive player set out0 out0 0 false := ⟨h, Nat.le_refl _, fun _ => ⟨rfl, fun v hv => absurd hv (by omega)⟩, fun h => by cases h⟩
theorem Pass.skip (h : Pass g alive player set out0 out k more) (hc : Closed g alive player out k) : Pass g alive player set out0 out (k + 1) more :=
  ⟨h.bet, h.grows, fun hm => ⟨(h.no hm).1, fun v hv => by
    by_cases e : v = k
    · subst e; rw [← (h.no hm).1]; exact hc
    · exact (h.no hm).2 v (by omega)⟩, h.yes⟩
theorem Pass.add (h : Pass g alive player set out0 out k more) (hk : k < g.length) (ho : inS out k = false) (a : Attr g alive player set k) : Pass g alive player set out0 (out.set k true) (k + 1) true := by
  have h1 := cntT_set (s := out) (v := k) (by rw [h.bet.len]; exact hk) ho
  have h2 := h.grows
  exact ⟨h.bet.add hk a, by omega, fun h => (by cases h), fun _ => by omega⟩
end

end Go.Proofs.YtanlgnjgpbjebaaGreatDoor

namespace Go.Proofs.YtanlgnjgpbjebaaGreatDoor
set_option linter.unusedVariables false

/-- The least priority among the first k vertices that are alive. -/
def minStep (g : DV) (alive : List Bool) (a : Option Int) (v : Nat) : Option Int := if inS alive v then some (match a with | none => gPri g v | some m => min m (gPri g v)) else a
def minK (g : DV) (alive : List Bool) (k : Nat) : Option Int := (List.range k).foldl (minStep g alive) none
theorem leastP_min (g : DV) (alive : List Bool) : leastP g alive = minK g alive g.length := rfl
theorem minK_zero (g : DV) (alive : List Bool) : minK g alive 0 = none := rfl
theorem minK_succ (g : DV) (alive : List Bool) (k : Nat) : minK g alive (k + 1) = minStep g alive (minK g alive k) k := by unfold minK; rw [List.range_succ, List.foldl_append]; rfl
theorem minK_spec (g : DV) (alive : List Bool) (k : Nat) : match minK g alive k with
    | none => ∀ v, v < k → inS alive v = false
    | some m => (∃ v, v < k ∧ inS alive v = true ∧ gPri g v = m) ∧ ∀ v, v < k → inS alive v = true → m ≤ gPri g v := by
  induction k with
  | zero => rw [minK_zero]; intro v hv; omega
  | succ k ih =>
    rw [minK_succ]
    unfold minStep
    by_cases ha : inS alive k = true
    · rw [if_pos ha]
      cases h : minK g alive k with
      | none =>
        rw [h] at ih
        refine ⟨⟨k, by omega, ha, rfl⟩, fun v hv hav => ?_⟩
        by_cases e : v = k
        · subst e; exact Int.le_refl _
        · rw [ih v (by omega)] at hav; cases hav
      | some m =>
        rw [h] at ih
        obtain ⟨⟨u, hu, hua, hum⟩, hle⟩ := ih
        refine ⟨?_, fun v hv hav => ?_⟩
        · rcases Int.le_total m (gPri g k) with h1 | h1
          · exact ⟨u, by omega, hua, by show gPri g u = min m (gPri g k); omega⟩
          · exact ⟨k, by omega, ha, by show gPri g k = min m (gPri g k); omega⟩
        · show min m (gPri g k) ≤ gPri g v
          by_cases e : v = k
          · subst e; omega
          · have := hle v (by omega) hav; omega
    · rw [if_neg ha]
      cases h : minK g alive k with
      | none =>
        rw [h] at ih
        intro v hv
        by_cases e : v = k
        · subst e; simpa using ha
        · exact ih v (by omega)
      | some m =>
        rw [h] at ih
        obtain ⟨⟨u, hu, hua, hum⟩, hle⟩ := ih
        refine ⟨⟨u, by omega, hua, hum⟩, fun v hv hav => ?_⟩
        by_cases e : v = k
        · subst e; exact absurd hav ha
        · exact hle v (by omega) hav

section
variable {g : DV} {alive : List Bool}
theorem leastP_none (hal : alive.length = g.length) (h : ∀ v, inS alive v = false) : leastP g alive = none := by
  have := minK_spec g alive g.length
  rw [leastP_min]
  cases e : minK g alive g.length with
  | none => rfl
  | some m =>
    rw [e] at this
    obtain ⟨⟨u, _, hua, _⟩, _⟩ := this
    rw [h u] at hua; cases hua
theorem leastP_some {m : Int} {u : Nat} (hal : alive.length = g.length) (hu : inS alive u = true) (hm : gPri g u = m) (hle : ∀ v, inS alive v = true → m ≤ gPri g v) : leastP g alive = some m := by
  have := minK_spec g alive g.length
  rw [leastP_min]
  cases e : minK g alive g.length with
  | none =>
    rw [e] at this
    rw [this u (by rw [← hal]; exact inS_lt hu)] at hu; cases hu
  | some m' =>
    rw [e] at this
    obtain ⟨⟨x, _, hxa, hxm⟩, hle'⟩ := this
    have h1 := hle x hxa
    have h2 := hle' u (by rw [← hal]; exact inS_lt hu) hu
    congr 1
    omega
theorem leastP_at {m : Int} (h : leastP g alive = some m) : ∃ v, v < g.length ∧ inS alive v = true ∧ gPri g v = m := by
  have := minK_spec g alive g.length
  rw [leastP_min] at h
  rw [h] at this
  exact this.1
theorem leastP_no (h : leastP g alive = none) (hal : alive.length = g.length) : ∀ v, inS alive v = false := fun v => by
  have := minK_spec g alive g.length
  rw [leastP_min] at h
  rw [h] at this
  by_cases hv : v < g.length
  · exact this v hv
  · exact inS_big (by omega)

/-- The sets of one step. -/
def firstF (g : DV) (alive : List Bool) (least : Int) : List Bool := setOf g.length fun v => inS alive v && decide (gPri g v = least)
noncomputable def aimF (g : DV) (alive : List Bool) (least : Int) : List Bool := attrF g alive (least % 2) (firstF g alive least)
noncomputable def lessF (g : DV) (alive less : List Bool) : List Bool := setOf g.length fun v => inS alive v && !inS less v
noncomputable def otherF (g : DV) (rest won : List Bool) (player : Int) : List Bool := setOf g.length fun v => inS rest v && (inS won v != decide (player = 1))

theorem otherF_len (rest won : List Bool) (player : Int) : (otherF g rest won player).length = g.length := setOf_len _ _
theorem winF_none {f : Nat} (h : leastP g alive = none) : winF g f alive = setOf g.length fun _ => false := by
  cases f with
  | zero => rfl
  | succ f => unfold winF; rw [h]
theorem winF_stop {f : Nat} {least : Int} (h : leastP g alive = some least) (hno : anyS (otherF g (lessF g alive (aimF g alive least)) (winF g f (lessF g alive (aimF g alive least))) (least % 2)) = false) :
    winF g (f + 1) alive = setOf g.length fun v => inS alive v && decide (least % 2 = 1) := by
  rw [anyS_range (otherF_len _ _ _)] at hno
  show (match leastP g alive with | none => _ | some least => _) = _
  rw [h]
  dsimp only
  unfold otherF lessF aimF firstF at hno
  rw [hno]
  rfl
theorem winF_go {f : Nat} {least : Int} (h : leastP g alive = some least) (hyes : anyS (otherF g (lessF g alive (aimF g alive least)) (winF g f (lessF g alive (aimF g alive least))) (least % 2)) = true) :
    winF g (f + 1) alive = (let lost := attrF g alive (1 - least % 2) (otherF g (lessF g alive (aimF g alive least)) (winF g f (lessF g alive (aimF g alive least))) (least % 2))
      setOf g.length fun v => inS alive v && ((inS lost v && decide (least % 2 = 0)) || (!inS lost v && inS (winF g f (lessF g alive lost)) v))) := by
  rw [anyS_range (otherF_len _ _ _)] at hyes
  show (match leastP g alive with | none => _ | some least => _) = _
  rw [h]
  dsimp only
  unfold otherF lessF aimF firstF at hyes
  rw [hyes]
  rfl

theorem inS_lessF {less : List Bool} {v : Nat} : inS (lessF g alive less) v = (decide (v < g.length) && (inS alive v && !inS less v)) := inS_setOf
theorem firstF_sub {least : Int} {v : Nat} (h : inS (firstF g alive least) v = true) : inS alive v = true := by
  unfold firstF at h; rw [inS_setOf] at h; simp at h; exact h.2.1
theorem otherF_sub {less won : List Bool} {player : Int} {v : Nat} (h : inS (otherF g (lessF g alive less) won player) v = true) : inS alive v = true := by
  unfold otherF at h; rw [inS_setOf, inS_lessF] at h; simp at h; exact h.2.1.2.1
/-- What is left is less. -/
theorem rest_lt {least : Int} (hal : alive.length = g.length) (h : leastP g alive = some least) : cntT (lessF g alive (aimF g alive least)) < cntT alive := by
  obtain ⟨v, hv, ha, hp⟩ := leastP_at h
  refine cntT_lt (by rw [hal]; exact setOf_len _ _) (fun u hu => by rw [inS_lessF] at hu; simp at hu; exact hu.2.1) ha ?_
  rw [inS_lessF]
  have : inS (aimF g alive least) v = true := (inS_attrF hal fun _ => firstF_sub).2 (.base (by unfold firstF; rw [inS_setOf]; simp [hv, ha, hp]))
  simp [this]
theorem lost_lt {least : Int} {won : List Bool} {player p2 : Int} (hal : alive.length = g.length) (h : anyS (otherF g (lessF g alive (aimF g alive least)) won player) = true) :
    cntT (lessF g alive (attrF g alive p2 (otherF g (lessF g alive (aimF g alive least)) won player))) < cntT alive := by
  rw [anyS_range (otherF_len _ _ _), List.any_eq_true] at h
  obtain ⟨v, hv, hq⟩ := h
  refine cntT_lt (by rw [hal]; exact setOf_len _ _) (fun u hu => by rw [inS_lessF] at hu; simp at hu; exact hu.2.1) (otherF_sub hq) ?_
  rw [inS_lessF, (inS_attrF hal fun _ => otherF_sub).2 (.base hq)]
  simp

end

end Go.Proofs.YtanlgnjgpbjebaaGreatDoor

namespace Go.Proofs.YtanlgnjgpbjebaaGreatDoor
set_option linter.unusedVariables false

/-- The least priority that comes again and again on an infinite walk is player o's. -/
def GoodP (g : DV) (o : Int) (p : Nat → Nat) : Prop := ∃ m, m % 2 = o ∧ (∀ N, ∃ i, N ≤ i ∧ gPri g (p i) = m) ∧ ∃ N, ∀ i, N ≤ i → m ≤ gPri g (p i)

theorem GoodP.one {g : DV} {o o' : Int} {p : Nat → Nat} (h : GoodP g o p) (h' : GoodP g o' p) : o = o' := by
  obtain ⟨m, e, a, N, b⟩ := h
  obtain ⟨m', e', a', N', b'⟩ := h'
  obtain ⟨i, hi, hm⟩ := a N'
  obtain ⟨j, hj, hm'⟩ := a' N
  have h1 := b' i hi
  have h2 := b j hj
  have : m = m' := by omega
  rw [← e, ← e', this]

theorem GoodP.tail {g : DV} {o : Int} {p : Nat → Nat} (k : Nat) (h : GoodP g o (fun i => p (i + k))) : GoodP g o p := by
  obtain ⟨m, e, a, N, b⟩ := h
  refine ⟨m, e, fun M => ?_, N + k, fun i hi => ?_⟩
  · obtain ⟨i, hi, hm⟩ := a M
    exact ⟨i + k, by omega, hm⟩
  · have := b (i - k) (by omega)
    dsimp only at this
    rwa [Nat.sub_add_cancel (by omega)] at this

/-- An infinite walk within W on which player o moves by σ. -/
structure Play (g : DV) (o : Int) (σ : Nat → Nat) (W : Nat → Prop) (p : Nat → Nat) : Prop where
  mem : ∀ i, W (p i)
  go : ∀ i, p (i + 1) ∈ gNxt g (p i)
  own : ∀ i, gOwn g (p i) = o → p (i + 1) = σ (p i)
theorem Play.tail {g : DV} {o : Int} {σ : Nat → Nat} {W : Nat → Prop} {p : Nat → Nat} (h : Play g o σ W p) (k : Nat) : Play g o σ W (fun i => p (i + k)) :=
  ⟨fun i => h.mem _, fun i => by have := h.go (i + k); rwa [show i + k + 1 = i + 1 + k by omega] at this, fun i ho => by have := h.own (i + k) ho; rwa [show i + k + 1 = i + 1 + k by omega] at this⟩

/-- Player o, moving by σ, keeps within U or goes to T, and wins what stays in U for ever. -/
structure RCert (g : DV) (al : Nat → Prop) (o : Int) (T U : Nat → Prop) (σ : Nat → Nat) : Prop where
  sub : ∀ v, U v → al v
  own : ∀ v, U v → gOwn g v = o → σ v ∈ gNxt g v ∧ (U (σ v) ∨ T (σ v))
  opp : ∀ v, U v → gOwn g v ≠ o → ∀ u, u ∈ gNxt g v → al u → U u ∨ T u
  win : ∀ p, Play g o σ U p → GoodP g o p
/-- Player o wins W among the vertices of al. -/
def Cert (g : DV) (al : Nat → Prop) (o : Int) (W : Nat → Prop) (σ : Nat → Nat) : Prop := RCert g al o (fun _ => False) W σ

theorem RCert.join {g : DV} {al : Nat → Prop} {o : Int} {T U : Nat → Prop} {σ τ : Nat → Nat} (hT : Cert g al o T σ) (hU : RCert g al o T U τ) : ∃ ρ, Cert g al o (fun v => T v ∨ U v) ρ := by
  classical
  refine ⟨fun v => if T v then σ v else τ v, fun v h => ?_, fun v h ho => ?_, fun v h ho u hu ha => ?_, fun p hp => ?_⟩
  · rcases h with h | h
    · exact hT.sub v h
    · exact hU.sub v h
  · by_cases t : T v
    · obtain ⟨a, b⟩ := hT.own v t ho
      rw [if_pos t]
      exact ⟨a, .inl (.inl (b.resolve_right id))⟩
    · obtain ⟨a, b⟩ := hU.own v (h.resolve_left t) ho
      rw [if_neg t]
      exact ⟨a, .inl b.symm⟩
  · left
    by_cases t : T v
    · exact .inl ((hT.opp v t ho u hu ha).resolve_right id)
    · exact (hU.opp v (h.resolve_left t) ho u hu ha).symm
  · by_cases e : ∃ k, T (p k)
    · obtain ⟨k, hk⟩ := e
      have hal : ∀ i, al (p i) := fun i => by rcases hp.mem i with h | h; exact hT.sub _ h; exact hU.sub _ h
      have hall : ∀ i, T (p (i + k)) := by
        intro i
        induction i with
        | zero => rw [Nat.zero_add]; exact hk
        | succ i ih =>
          rw [show i + 1 + k = i + k + 1 by omega]
          by_cases ho : gOwn g (p (i + k)) = o
          · have h1 := hp.own _ ho
            rw [if_pos ih] at h1
            rw [h1]
            exact (hT.own _ ih ho).2.resolve_right id
          · exact (hT.opp _ ih ho _ (hp.go _) (hal _)).resolve_right id
      refine GoodP.tail k (hT.win _ ⟨hall, (hp.tail k).go, fun i ho => ?_⟩)
      have h1 := (hp.tail k).own i ho
      rwa [if_pos (hall i)] at h1
    · refine hU.win p ⟨fun i => (hp.mem i).resolve_left fun t => e ⟨i, t⟩, hp.go, fun i ho => ?_⟩
      have h1 := hp.own i ho
      rwa [if_neg (fun t => e ⟨i, t⟩)] at h1

theorem Cert.congr {g : DV} {al : Nat → Prop} {o : Int} {W W' : Nat → Prop} {σ : Nat → Nat} (h : Cert g al o W σ) (e : ∀ v, W v ↔ W' v) : Cert g al o W' σ := by
  have : W = W' := funext fun v => propext (e v)
  rwa [← this]

/-- No vertex is won by both. -/
theorem Cert.apart {g : DV} (how : Owned g) {W W' : Nat → Prop} {σ τ : Nat → Nat} (h : Cert g (· < g.length) 0 W σ) (k : Cert g (· < g.length) 1 W' τ) (hs : ∀ v u, u ∈ gNxt g v → u < g.length) {v : Nat} (hv : W v) (hv' : W' v) : False := by
  classical
  let step : Nat → Nat := fun v => if gOwn g v = 0 then σ v else τ v
  let p : Nat → Nat := fun i => Nat.rec v (fun _ x => step x) i
  have hp1 : ∀ i, p (i + 1) = step (p i) := fun i => rfl
  have key : ∀ x, W x → W' x → step x ∈ gNxt g x ∧ W (step x) ∧ W' (step x) := by
    intro x hx hx'
    by_cases ho : gOwn g x = 0
    · have e : step x = σ x := if_pos ho
      rw [e]
      obtain ⟨a, b⟩ := h.own x hx ho
      exact ⟨a, b.resolve_right id, (k.opp x hx' (by omega) _ a (hs _ _ a)).resolve_right id⟩
    · have e : step x = τ x := if_neg ho
      rw [e]
      have ho1 : gOwn g x = 1 := (how x (h.sub x hx)).resolve_left ho
      obtain ⟨a, b⟩ := k.own x hx' ho1
      exact ⟨a, (h.opp x hx ho _ a (hs _ _ a)).resolve_right id, b.resolve_right id⟩
  have hall : ∀ i, W (p i) ∧ W' (p i) := by
    intro i
    induction i with
    | zero => exact ⟨hv, hv'⟩
    | succ i ih => rw [hp1]; exact (key _ ih.1 ih.2).2
  have hgo : ∀ i, p (i + 1) ∈ gNxt g (p i) := fun i => by rw [hp1]; exact (key _ (hall i).1 (hall i).2).1
  have g0 := h.win p ⟨fun i => (hall i).1, hgo, fun i ho => by rw [hp1]; exact if_pos ho⟩
  have g1 := k.win p ⟨fun i => (hall i).2, hgo, fun i ho => by rw [hp1]; exact if_neg (by omega)⟩
  have := g0.one g1
  omega

/-- Stages of the attractor. -/
def AttrN (g : DV) (alive : List Bool) (o : Int) (set : List Bool) : Nat → Nat → Prop
  | 0, v => inS set v = true
  | k + 1, v => AttrN g alive o set k v ∨ (inS alive v = true ∧ gOwn g v = o ∧ ∃ u, u ∈ gNxt g v ∧ inS alive u = true ∧ AttrN g alive o set k u) ∨
      (inS alive v = true ∧ gOwn g v ≠ o ∧ (∃ u, u ∈ gNxt g v ∧ inS alive u = true) ∧ ∀ x, x ∈ gNxt g v → inS alive x = true → AttrN g alive o set k x)
section
variable {g : DV} {alive : List Bool} {o : Int} {set : List Bool}
theorem AttrN.mono {k l v : Nat} (h : AttrN g alive o set k v) (hl : k ≤ l) : AttrN g alive o set l v := by
  induction l with
  | zero => have : k = 0 := by omega
            subst this; exact h
  | succ l ih =>
    rcases Nat.lt_or_ge k (l + 1) with h1 | h1
    · exact .inl (ih (by omega))
    · have : k = l + 1 := by omega
      subst this; exact h
theorem AttrN.attr : ∀ {k v : Nat}, AttrN g alive o set k v → Attr g alive o set v
  | 0, v, h => .base h
  | k + 1, v, .inl h => AttrN.attr h
  | k + 1, v, .inr (.inl ⟨a, b, u, c, d, e⟩) => .own a b c d (AttrN.attr e)
  | k + 1, v, .inr (.inr ⟨a, b, ⟨u, c, d⟩, e⟩) => .other a b c d fun x hx ha => AttrN.attr (e x hx ha)
theorem bound_list {Q : Nat → Nat → Prop} (mono : ∀ k l x, k ≤ l → Q k x → Q l x) : ∀ (l : List Nat), (∀ x, x ∈ l → ∃ k, Q k x) → ∃ K, ∀ x, x ∈ l → Q K x
  | [], _ => ⟨0, fun x h => (List.not_mem_nil h).elim⟩
  | y :: l, h => by
    obtain ⟨K, hK⟩ := bound_list mono l fun x hx => h x (List.mem_cons_of_mem _ hx)
    obtain ⟨k, hk⟩ := h y (List.mem_cons_self ..)
    refine ⟨max K k, fun x hx => ?_⟩
    rcases List.mem_cons.1 hx with rfl | hx
    · exact mono k _ _ (Nat.le_max_right _ _) hk
    · exact mono K _ _ (Nat.le_max_left _ _) (hK x hx)
theorem Attr.stage {v : Nat} (h : Attr g alive o set v) : ∃ k, AttrN g alive o set k v := by
  induction h with
  | base h => exact ⟨0, h⟩
  | own a b c d _ ih => obtain ⟨k, hk⟩ := ih; exact ⟨k + 1, .inr (.inl ⟨a, b, _, c, d, hk⟩)⟩
  | @other v u a b c d _ ih =>
    obtain ⟨K, hK⟩ := bound_list (Q := fun k x => inS alive x = true → AttrN g alive o set k x) (fun k l x hl h ha => (h ha).mono hl) (gNxt g v) (fun x hx => by
      by_cases ha : inS alive x = true
      · obtain ⟨k, hk⟩ := ih x hx ha; exact ⟨k, fun _ => hk⟩
      · exact ⟨0, fun h => absurd h ha⟩)
    exact ⟨K + 1, .inr (.inr ⟨a, b, ⟨u, c, d⟩, hK⟩)⟩
theorem least_of {P : Nat → Prop} (h : ∃ k, P k) : ∃ k, P k ∧ ∀ j, j < k → ¬ P j := by
  classical
  obtain ⟨k, hk⟩ := h
  induction k using Nat.strongRecOn with
  | ind k ih =>
    by_cases e : ∃ j, j < k ∧ P j
    · obtain ⟨j, hj, hp⟩ := e; exact ih j hj hp
    · exact ⟨k, hk, fun j hj hp => e ⟨j, hj, hp⟩⟩

/-- The attractor's strategy. -/
theorem Attr.strategy (g : DV) (alive : List Bool) (o : Int) (set : List Bool) : ∃ (τ rk : Nat → Nat),
    (∀ v, Attr g alive o set v → inS set v = false → gOwn g v = o → τ v ∈ gNxt g v ∧ inS alive (τ v) = true ∧ Attr g alive o set (τ v) ∧ rk (τ v) < rk v) ∧
    (∀ v, Attr g alive o set v → inS set v = false → gOwn g v ≠ o → ∀ u, u ∈ gNxt g v → inS alive u = true → Attr g alive o set u ∧ rk u < rk v) := by
  classical
  obtain ⟨rk, hrk⟩ := Classical.axiomOfChoice (show ∀ v, ∃ k, Attr g alive o set v → (AttrN g alive o set k v ∧ ∀ j, j < k → ¬ AttrN g alive o set j v) from fun v => by
    by_cases h : Attr g alive o set v
    · obtain ⟨k, hk⟩ := least_of h.stage; exact ⟨k, fun _ => hk⟩
    · exact ⟨0, fun h' => absurd h' h⟩)
  have low : ∀ u j, AttrN g alive o set j u → rk u ≤ j := fun u j h => Classical.byContradiction fun hn => (hrk u h.attr).2 j (by omega) h
  have step : ∀ v, Attr g alive o set v → inS set v = false → ∃ k, rk v = k + 1 ∧ ((inS alive v = true ∧ gOwn g v = o ∧ ∃ u, u ∈ gNxt g v ∧ inS alive u = true ∧ AttrN g alive o set k u) ∨
      (inS alive v = true ∧ gOwn g v ≠ o ∧ (∃ u, u ∈ gNxt g v ∧ inS alive u = true) ∧ ∀ x, x ∈ gNxt g v → inS alive x = true → AttrN g alive o set k x)) := by
    intro v hv hs
    obtain ⟨h1, h2⟩ := hrk v hv
    cases hk : rk v with
    | zero => rw [hk] at h1; have h1 : inS set v = true := h1; rw [hs] at h1; cases h1
    | succ k =>
      rw [hk] at h1
      rcases h1 with h1 | h1
      · exact absurd h1 (h2 k (by omega))
      · exact ⟨k, rfl, h1⟩
  obtain ⟨τ, hτ⟩ := Classical.axiomOfChoice (show ∀ v, ∃ u, (Attr g alive o set v ∧ inS set v = false ∧ gOwn g v = o) → (u ∈ gNxt g v ∧ inS alive u = true ∧ Attr g alive o set u ∧ rk u < rk v) from fun v => by
    by_cases h : Attr g alive o set v ∧ inS set v = false ∧ gOwn g v = o
    · obtain ⟨k, hk, h1 | h1⟩ := step v h.1 h.2.1
      · obtain ⟨_, _, u, c, d, e⟩ := h1
        exact ⟨u, fun _ => ⟨c, d, e.attr, by have := low u k e; omega⟩⟩
      · exact absurd h.2.2 h1.2.1
    · exact ⟨0, fun h' => absurd h' h⟩)
  refine ⟨τ, rk, fun v a b c => hτ v ⟨a, b, c⟩, fun v a b c u hu ha => ?_⟩
  obtain ⟨k, hk, h1 | h1⟩ := step v a b
  · exact absurd h1.2.1 c
  · have h2 := h1.2.2.2 u hu ha
    exact ⟨h2.attr, by have := low u k h2; omega⟩

/-- What is attracted to T is won with T. -/
theorem Attr.rcert (hs : ∀ v, inS set v = true → inS alive v = true) {T : Nat → Prop} (hT : ∀ v, inS set v = true ↔ T v) : ∃ τ, RCert g (fun v => inS alive v = true) o T (fun v => Attr g alive o set v ∧ inS set v = false) τ := by
  obtain ⟨τ, rk, h1, h2⟩ := Attr.strategy g alive o set
  have side : ∀ u, Attr g alive o set u → (Attr g alive o set u ∧ inS set u = false) ∨ T u := fun u hu => by
    cases h : inS set u with
    | true => exact .inr ((hT u).1 h)
    | false => exact .inl ⟨hu, rfl⟩
  refine ⟨τ, fun v h => h.1.sub hs, fun v h ho => ?_, fun v h ho u hu ha => side u (h2 v h.1 h.2 ho u hu ha).1, fun p hp => ?_⟩
  · obtain ⟨a, b, c, d⟩ := h1 v h.1 h.2 ho
    exact ⟨a, side _ c⟩
  · exfalso
    have down : ∀ i, rk (p (i + 1)) < rk (p i) := fun i => by
      by_cases ho : gOwn g (p i) = o
      · rw [hp.own i ho]; exact (h1 _ (hp.mem i).1 (hp.mem i).2 ho).2.2.2
      · exact (h2 _ (hp.mem i).1 (hp.mem i).2 ho _ (hp.go i) ((hp.mem (i + 1)).1.sub hs)).2
    have low : ∀ i, rk (p i) + i ≤ rk (p 0) := by
      intro i
      induction i with
      | zero => omega
      | succ i ih => have := down i; omega
    have := low (rk (p 0) + 1)
    omega
end


/-- Every vertex that is alive can move to one that is. -/
def TotalS (g : DV) (alive : List Bool) : Prop := ∀ v, inS alive v = true → ∃ u, u ∈ gNxt g v ∧ inS alive u = true
/-- What player o wins among the vertices that are alive. -/
def Reg (g : DV) (o : Int) (alive : List Bool) (f : Nat) (v : Nat) : Prop := inS alive v = true ∧ inS (winF g f alive) v = decide (o = 1)

theorem Cert.empty {g : DV} {al : Nat → Prop} {o : Int} {W : Nat → Prop} (h : ∀ v, ¬ W v) : Cert g al o W id := ⟨fun v hv => absurd hv (h v), fun v hv => absurd hv (h v), fun v hv => absurd hv (h v), fun p hp => absurd (hp.mem 0) (h _)⟩
theorem Cert.lift {g : DV} {al al' : Nat → Prop} {o : Int} {W : Nat → Prop} {σ : Nat → Nat} (h : Cert g al o W σ) (hs : ∀ v, al v → al' v) (hb : ∀ v, W v → gOwn g v ≠ o → ∀ u, u ∈ gNxt g v → al' u → al u) : Cert g al' o W σ :=
  ⟨fun v hv => hs v (h.sub v hv), h.own, fun v hv ho u hu ha => h.opp v hv ho u hu (hb v hv ho u hu ha), h.win⟩
theorem Cert.relax {g : DV} {al al' : Nat → Prop} {o : Int} {T W : Nat → Prop} {σ : Nat → Nat} (h : Cert g al o W σ) (hs : ∀ v, al v → al' v) (hb : ∀ u, al' u → al u ∨ T u) : RCert g al' o T W σ :=
  ⟨fun v hv => hs v (h.sub v hv), fun v hv ho => ⟨(h.own v hv ho).1, (h.own v hv ho).2.imp id (fun h => h.elim)⟩, fun v hv ho u hu ha => by
    rcases hb u ha with hb | hb
    · exact (h.opp v hv ho u hu hb).imp id (fun h => h.elim)
    · exact .inr hb, h.win⟩

section
variable {g : DV} {alive : List Bool} {o : Int} {set : List Bool}
theorem cntT_pos {s : List Bool} {v : Nat} (h : inS s v = true) : 0 < cntT s :=
  Nat.lt_of_le_of_lt (Nat.zero_le _) (cntT_lt (s := setOf s.length fun _ => false) (t := s) (setOf_len _ _) (fun u hu => by rw [inS_setOf] at hu; simp at hu) h (by rw [inS_setOf]; simp))
theorem inS_less (hl : alive.length = g.length) (hs : ∀ v, inS set v = true → inS alive v = true) {v : Nat} : inS (lessF g alive (attrF g alive o set)) v = true ↔ inS alive v = true ∧ ¬ Attr g alive o set v := by
  rw [inS_lessF, ← inS_attrF hl hs]
  constructor
  · intro h
    simp at h
    exact ⟨h.2.1, by rw [h.2.2]; simp⟩
  · intro h
    have hv : v < g.length := by rw [← hl]; exact inS_lt h.1
    simp [hv, h.1]
    simpa using h.2
theorem total_less (hl : alive.length = g.length) (hs : ∀ v, inS set v = true → inS alive v = true) (ht : TotalS g alive) : TotalS g (lessF g alive (attrF g alive o set)) := by
  intro v hv
  rw [inS_less hl hs] at hv
  obtain ⟨ha, hn⟩ := hv
  by_cases ho : gOwn g v = o
  · obtain ⟨u, hu, hua⟩ := ht v ha
    exact ⟨u, hu, (inS_less hl hs).2 ⟨hua, fun h => hn (.own ha ho hu hua h)⟩⟩
  · obtain ⟨u, hu, hua⟩ := ht v ha
    exact Classical.byContradiction fun hc => hn (.other ha ho hu hua fun x hx hxa => Classical.byContradiction fun hx' => hc ⟨x, hx, (inS_less hl hs).2 ⟨hxa, hx'⟩⟩)

theorem leastP_le {d : Int} (hd : leastP g alive = some d) (hl : alive.length = g.length) {v : Nat} (hv : inS alive v = true) : d ≤ gPri g v := by
  have := minK_spec g alive g.length
  rw [leastP_min] at hd
  rw [hd] at this
  exact this.2 v (by rw [← hl]; exact inS_lt hv) hv

/-- All is won where the other player wins nothing of the rest. -/
theorem cert_stop {d : Int} (hl : alive.length = g.length) (hd : leastP g alive = some d) (ht : TotalS g alive) {σ : Nat → Nat} (hR : Cert g (fun v => inS (lessF g alive (aimF g alive d)) v = true) (d % 2) (fun v => inS (lessF g alive (aimF g alive d)) v = true) σ) :
    ∃ ρ, Cert g (fun v => inS alive v = true) (d % 2) (fun v => inS alive v = true) ρ := by
  classical
  have hs : ∀ v, inS (firstF g alive d) v = true → inS alive v = true := fun _ => firstF_sub
  obtain ⟨τ, rk, h1, h2⟩ := Attr.strategy g alive (d % 2) (firstF g alive d)
  obtain ⟨any, hany⟩ := Classical.axiomOfChoice (show ∀ v, ∃ u, inS alive v = true → (u ∈ gNxt g v ∧ inS alive u = true) from fun v => by
    by_cases h : inS alive v = true
    · obtain ⟨u, hu⟩ := ht v h; exact ⟨u, fun _ => hu⟩
    · exact ⟨0, fun h' => absurd h' h⟩)
  have hpri : ∀ v, inS alive v = true → d ≤ gPri g v := by
    intro v hv
    have := leastP_le hd hl hv
    exact this
  have hfirst : ∀ v, inS (firstF g alive d) v = true → gPri g v = d := fun v h => by
    unfold firstF at h
    rw [inS_setOf] at h
    simp at h
    exact h.2.2
  refine ⟨fun v => if inS (firstF g alive d) v = true then any v else if Attr g alive (d % 2) (firstF g alive d) v then τ v else σ v, fun v h => h, fun v h ho => ?_, fun v h ho u hu ha => .inl ha, fun p hp => ?_⟩
  · by_cases c1 : inS (firstF g alive d) v = true
    · rw [if_pos c1]
      exact ⟨(hany v h).1, .inl (hany v h).2⟩
    · rw [if_neg c1]
      by_cases c2 : Attr g alive (d % 2) (firstF g alive d) v
      · rw [if_pos c2]
        have := h1 v c2 (Bool.eq_false_iff.2 c1) ho
        exact ⟨this.1, .inl this.2.1⟩
      · rw [if_neg c2]
        have hv : inS (lessF g alive (aimF g alive d)) v = true := (inS_less hl hs).2 ⟨h, c2⟩
        obtain ⟨a, b⟩ := hR.own v hv ho
        have b := b.resolve_right id
        exact ⟨a, .inl ((inS_less hl hs).1 b).1⟩
  · by_cases e : ∃ N, ∀ i, N ≤ i → ¬ Attr g alive (d % 2) (firstF g alive d) (p i)
    · obtain ⟨N, hN⟩ := e
      refine GoodP.tail N (hR.win _ ⟨fun i => (inS_less hl hs).2 ⟨hp.mem _, hN _ (by omega)⟩, (hp.tail N).go, fun i ho => ?_⟩)
      have h3 := (hp.tail N).own i ho
      have hn := hN (i + N) (by omega)
      rw [if_neg (fun c => hn (.base c)), if_neg hn] at h3
      exact h3
    · have hinf : ∀ N, ∃ i, N ≤ i ∧ Attr g alive (d % 2) (firstF g alive d) (p i) := fun N => Classical.byContradiction fun hc => e ⟨N, fun i hi ha => hc ⟨i, hi, ha⟩⟩
      have reach : ∀ k i, rk (p i) ≤ k → Attr g alive (d % 2) (firstF g alive d) (p i) → ∃ j, i ≤ j ∧ inS (firstF g alive d) (p j) = true := by
        intro k
        induction k with
        | zero =>
          intro i hk ha
          cases c : inS (firstF g alive d) (p i) with
          | true => exact ⟨i, Nat.le_refl _, c⟩
          | false =>
            exfalso
            by_cases ho : gOwn g (p i) = d % 2
            · have := (h1 _ ha c ho).2.2.2; omega
            · have := (h2 _ ha c ho _ (hp.go i) (hp.mem _)).2; omega
        | succ k ih =>
          intro i hk ha
          cases c : inS (firstF g alive d) (p i) with
          | true => exact ⟨i, Nat.le_refl _, c⟩
          | false =>
            have hnext : Attr g alive (d % 2) (firstF g alive d) (p (i + 1)) ∧ rk (p (i + 1)) < rk (p i) := by
              by_cases ho : gOwn g (p i) = d % 2
              · have h3 := hp.own i ho
                rw [if_neg (by rw [c]; simp), if_pos ha] at h3
                rw [h3]
                exact ⟨(h1 _ ha c ho).2.2.1, (h1 _ ha c ho).2.2.2⟩
              · exact h2 _ ha c ho _ (hp.go i) (hp.mem _)
            obtain ⟨j, hj, hc⟩ := ih (i + 1) (by omega) hnext.1
            exact ⟨j, by omega, hc⟩
      refine ⟨d, rfl, fun N => ?_, 0, fun i _ => hpri _ (hp.mem i)⟩
      obtain ⟨i, hi, ha⟩ := hinf N
      obtain ⟨j, hj, hc⟩ := reach _ i (Nat.le_refl _) ha
      exact ⟨j, by omega, hfirst _ hc⟩

/-- One step of the recursion. -/
theorem region_cert (how : Owned g) : ∀ (f : Nat) (alive : List Bool), alive.length = g.length → cntT alive ≤ f → TotalS g alive → ∀ o : Int, (o = 0 ∨ o = 1) → ∃ σ, Cert g (fun v => inS alive v = true) o (Reg g o alive f) σ := by
  intro f
  induction f with
  | zero =>
    intro alive hl hn ht o ho
    exact ⟨id, Cert.empty fun v h => by have := cntT_pos h.1; omega⟩
  | succ f ih =>
    intro alive hl hn ht o ho
    cases hd : leastP g alive with
    | none => exact ⟨id, Cert.empty fun v h => by have := leastP_no hd hl v; have h1 := h.1; rw [this] at h1; cases h1⟩
    | some d =>
      have hfs : ∀ v, inS (firstF g alive d) v = true → inS alive v = true := fun _ => firstF_sub
      have hRt : TotalS g (lessF g alive (aimF g alive d)) := total_less hl hfs ht
      have hRl : (lessF g alive (aimF g alive d)).length = g.length := setOf_len _ _
      have hRn : cntT (lessF g alive (aimF g alive d)) ≤ f := by have := rest_lt hl hd; omega
      have ihR := ih _ hRl hRn hRt
      have hRin : ∀ v, inS (lessF g alive (aimF g alive d)) v = true ↔ inS alive v = true ∧ ¬ Attr g alive (d % 2) (firstF g alive d) v := fun v => inS_less hl hfs
      have hlt : ∀ v, inS alive v = true → v < g.length := fun v h => by rw [← hl]; exact inS_lt h
      have hdp : d % 2 = 0 ∨ d % 2 = 1 := by omega
      cases hany : anyS (otherF g (lessF g alive (aimF g alive d)) (winF g f (lessF g alive (aimF g alive d))) (d % 2)) with
      | false =>
        have hw := winF_stop hd hany
        have hin : ∀ v, inS alive v = true → inS (winF g (f + 1) alive) v = decide (d % 2 = 1) := fun v h => by rw [hw, inS_setOf]; simp [hlt v h, h]
        by_cases hod : o = d % 2
        · subst hod
          have hno : ∀ v, inS (lessF g alive (aimF g alive d)) v = true → inS (winF g f (lessF g alive (aimF g alive d))) v = decide (d % 2 = 1) := by
            intro v hv
            cases c : inS (otherF g (lessF g alive (aimF g alive d)) (winF g f (lessF g alive (aimF g alive d))) (d % 2)) v with
            | true => rw [anyS_of (by rw [otherF_len]; exact hlt v ((hRin v).1 hv).1) c] at hany; cases hany
            | false =>
              unfold otherF at c
              rw [inS_setOf] at c
              simpa [hlt v ((hRin v).1 hv).1, hv] using c
          obtain ⟨σ, hσ⟩ := ihR (d % 2) ho
          obtain ⟨ρ, hρ⟩ := cert_stop hl hd ht (hσ.congr fun v => ⟨fun h => h.1, fun h => ⟨h, hno v h⟩⟩)
          exact ⟨ρ, hρ.congr fun v => ⟨fun h => ⟨h, hin v h⟩, fun h => h.1⟩⟩
        · refine ⟨id, Cert.empty fun v h => ?_⟩
          have h1 := hin v h.1
          rw [h.2] at h1
          rcases ho with rfl | rfl <;> rcases hdp with e | e <;> simp [e] at h1 hod
      | true =>
        have hw := winF_go hd hany
        have hln := lost_lt (p2 := 1 - d % 2) hl hany
        dsimp only at hw
        generalize hot : otherF g (lessF g alive (aimF g alive d)) (winF g f (lessF g alive (aimF g alive d))) (d % 2) = ot at *
        have hots : ∀ v, inS ot v = true → inS alive v = true := fun v h => by rw [← hot] at h; exact otherF_sub h
        have hlin : ∀ v, inS (attrF g alive (1 - d % 2) ot) v = true ↔ Attr g alive (1 - d % 2) ot v := fun v => inS_attrF hl hots
        have hR2t : TotalS g (lessF g alive (attrF g alive (1 - d % 2) ot)) := total_less hl hots ht
        have hR2in : ∀ v, inS (lessF g alive (attrF g alive (1 - d % 2) ot)) v = true ↔ inS alive v = true ∧ ¬ Attr g alive (1 - d % 2) ot v := fun v => inS_less hl hots
        have ih2 := ih (lessF g alive (attrF g alive (1 - d % 2) ot)) (setOf_len _ _) (by omega) hR2t
        -- the other player's part of the rest is won among all
        have hotv : ∀ v, inS ot v = true ↔ Reg g (1 - d % 2) (lessF g alive (aimF g alive d)) f v := by
          intro v
          rw [← hot]
          unfold otherF Reg
          rw [inS_setOf]
          constructor
          · intro h
            simp only [Bool.and_eq_true, decide_eq_true_eq] at h
            refine ⟨h.2.1, ?_⟩
            have h2 := h.2.2
            rcases hdp with e | e <;> rw [e] at h2 ⊢ <;> simpa using h2
          · intro h
            simp only [Bool.and_eq_true, decide_eq_true_eq]
            refine ⟨hlt v ((hRin v).1 h.1).1, h.1, ?_⟩
            rw [h.2]
            rcases hdp with e | e <;> rw [e] <;> decide
        obtain ⟨σ, hσ⟩ := ihR (1 - d % 2) (by omega)
        have hT : Cert g (fun v => inS alive v = true) (1 - d % 2) (fun v => inS ot v = true) σ := (hσ.lift (fun v h => ((hRin v).1 h).1) (fun v hv ho' u hu ha => by
          have hva := (hRin v).1 hv.1
          refine (hRin u).2 ⟨ha, fun hau => hva.2 (.own hva.1 ?_ hu ha hau)⟩
          rcases how v (hlt v hva.1) with e | e <;> omega)).congr fun v => (hotv v).symm
        obtain ⟨τ, hU⟩ := Attr.rcert (o := 1 - d % 2) hots (T := fun v => inS ot v = true) (fun v => Iff.rfl)
        obtain ⟨ρ, hL⟩ := RCert.join hT hU
        have hL2 : Cert g (fun v => inS alive v = true) (1 - d % 2) (fun v => Attr g alive (1 - d % 2) ot v) ρ := hL.congr fun v => ⟨fun h => h.elim (fun h => .base h) (fun h => h.1), fun h => by
          cases c : inS ot v with
          | true => exact .inl rfl
          | false => exact .inr ⟨h, rfl⟩⟩
        have hwin : ∀ v, inS alive v = true → inS (winF g (f + 1) alive) v = ((inS (attrF g alive (1 - d % 2) ot) v && decide (d % 2 = 0)) || (!inS (attrF g alive (1 - d % 2) ot) v && inS (winF g f (lessF g alive (attrF g alive (1 - d % 2) ot))) v)) := fun v h => by
          rw [hw, inS_setOf]; simp [hlt v h, h]
        by_cases hod : o = d % 2
        · obtain ⟨σ2, h2⟩ := ih2 o ho
          refine ⟨σ2, (h2.lift (fun v h => ((hR2in v).1 h).1) (fun v hv ho' u hu ha => ?_)).congr fun v => ⟨fun h => ?_, fun h => ?_⟩⟩
          · have hva := (hR2in v).1 hv.1
            refine (hR2in u).2 ⟨ha, fun hau => hva.2 (.own hva.1 ?_ hu ha hau)⟩
            rcases how v (hlt v hva.1) with e | e <;> omega
          · have hva := (hR2in v).1 h.1
            refine ⟨hva.1, ?_⟩
            rw [hwin v hva.1, show inS (attrF g alive (1 - d % 2) ot) v = false from Bool.eq_false_iff.2 fun c => hva.2 ((hlin v).1 c), h.2]
            simp
          · have h1 := hwin v h.1
            rw [h.2] at h1
            cases c : inS (attrF g alive (1 - d % 2) ot) v with
            | true =>
              exfalso
              rw [c, hod] at h1
              rcases hdp with e | e <;> rw [e] at h1 <;> simp at h1
            | false =>
              rw [c] at h1
              refine ⟨(hR2in v).2 ⟨h.1, fun ha => ?_⟩, by simpa using h1.symm⟩
              rw [(hlin v).2 ha] at c; cases c
        · have hoq : o = 1 - d % 2 := by omega
          obtain ⟨σ2, h2⟩ := ih2 o ho
          rw [← hoq] at hL2
          obtain ⟨ρ2, h3⟩ := RCert.join hL2 (h2.relax (T := fun v => Attr g alive o ot v) (al' := fun v => inS alive v = true) (fun v h => ((hR2in v).1 h).1) (fun u ha => by
            by_cases c : Attr g alive o ot u
            · exact .inr c
            · exact .inl ((hR2in u).2 ⟨ha, by rw [← hoq]; exact c⟩)))
          refine ⟨ρ2, h3.congr fun v => ⟨fun h => ?_, fun h => ?_⟩⟩
          · rcases h with h | h
            · have ha := h.sub hots
              refine ⟨ha, ?_⟩
              rw [hwin v ha, (hlin v).2 (by rw [← hoq]; exact h), hoq]
              rcases hdp with e | e <;> rw [e] <;> simp
            · have hva := (hR2in v).1 h.1
              refine ⟨hva.1, ?_⟩
              rw [hwin v hva.1, show inS (attrF g alive (1 - d % 2) ot) v = false from Bool.eq_false_iff.2 fun c => hva.2 ((hlin v).1 c), h.2]
              simp
          · by_cases c : Attr g alive o ot v
            · exact .inl c
            · right
              have h1 := hwin v h.1
              rw [h.2, show inS (attrF g alive (1 - d % 2) ot) v = false from Bool.eq_false_iff.2 fun c' => c (by rw [hoq]; exact (hlin v).1 c')] at h1
              exact ⟨(hR2in v).2 ⟨h.1, by rw [← hoq]; exact c⟩, by simpa using h1.symm⟩
end


section
variable {g : DV} {o q : Int}
theorem stuck_cert (hoq : q ≠ o) : Cert g (fun v => inS (wholeF g) v = true) o (fun v => inS (stuckF g q) v = true) id :=
  ⟨fun v h => stuck_whole h, fun v h ho => absurd ((inS_stuck h).1.symm.trans ho) hoq, fun v h _ u hu => by rw [(inS_stuck h).2] at hu; exact (List.not_mem_nil hu).elim, fun p hp => by
    have := hp.go 0
    rw [(inS_stuck (hp.mem 0)).2] at this
    exact (List.not_mem_nil this).elim⟩
theorem Cert.relax2 {al al' : Nat → Prop} {T W : Nat → Prop} {σ : Nat → Nat} (h : Cert g al o W σ) (hs : ∀ v, al v → al' v) (hb : ∀ v, W v → gOwn g v ≠ o → ∀ u, u ∈ gNxt g v → al' u → al u ∨ T u) : RCert g al' o T W σ :=
  ⟨fun v hv => hs v (h.sub v hv), fun v hv ho => ⟨(h.own v hv ho).1, (h.own v hv ho).2.imp id (fun h => h.elim)⟩, fun v hv ho u hu ha => by
    rcases hb v hv ho u hu ha with hb | hb
    · exact (h.opp v hv ho u hu hb).imp id (fun h => h.elim)
    · exact .inr hb, h.win⟩

abbrev Att (g : DV) (o q : Int) (v : Nat) : Prop := Attr g (wholeF g) o (stuckF g q) v
theorem inS_rest {v : Nat} : inS (restF g) v = true ↔ v < g.length ∧ ¬ Att g 0 1 v ∧ ¬ Att g 1 0 v := by
  unfold restF
  rw [inS_setOf]
  have h1 := inS_zeroF (g := g) (v := v)
  have h2 := inS_oneF (g := g) (v := v)
  simp only [Bool.and_eq_true, decide_eq_true_eq, Bool.not_eq_true']
  rw [← Bool.not_eq_true, ← Bool.not_eq_true, h1, h2]
theorem whole_in {v : Nat} : inS (wholeF g) v = true ↔ v < g.length := by rw [inS_whole]; simp
theorem rest_sym (hoq : (o = 1 ∧ q = 0) ∨ (o = 0 ∧ q = 1)) {v : Nat} : inS (restF g) v = true ↔ v < g.length ∧ ¬ Att g o q v ∧ ¬ Att g q o v := by
  rw [inS_rest]
  rcases hoq with ⟨rfl, rfl⟩ | ⟨rfl, rfl⟩
  · exact ⟨fun h => ⟨h.1, h.2.2, h.2.1⟩, fun h => ⟨h.1, h.2.2, h.2.1⟩⟩
  · exact Iff.rfl

theorem total_rest (how : Owned g) (hs : ∀ v u, u ∈ gNxt g v → u < g.length) : TotalS g (restF g) := by
  intro v hv
  have hvl := (inS_rest.1 hv).1
  have main : ∀ o q : Int, ((o = 1 ∧ q = 0) ∨ (o = 0 ∧ q = 1)) → gOwn g v = o → ∃ u, u ∈ gNxt g v ∧ inS (restF g) u = true := by
    intro o q hoq ho
    obtain ⟨_, h1, h2⟩ := (rest_sym hoq).1 hv
    have hne : gNxt g v ≠ [] := fun e => h2 (.base (by unfold stuckF; rw [inS_setOf]; simp [hvl, ho, e]))
    obtain ⟨u0, hu0⟩ := List.exists_mem_of_ne_nil _ hne
    have hvw : inS (wholeF g) v = true := whole_in.2 hvl
    obtain ⟨u, hu, hu2⟩ : ∃ u, u ∈ gNxt g v ∧ ¬ Att g q o u := Classical.byContradiction fun hc => h2 (.other hvw (by rcases hoq with ⟨rfl, rfl⟩ | ⟨rfl, rfl⟩ <;> omega) hu0 (whole_in.2 (hs _ _ hu0)) fun x hx _ => Classical.byContradiction fun hx' => hc ⟨x, hx, hx'⟩)
    refine ⟨u, hu, (rest_sym hoq).2 ⟨hs _ _ hu, fun hA => h1 (.own hvw ho hu (whole_in.2 (hs _ _ hu)) hA), hu2⟩⟩
  rcases how v hvl with e | e
  · exact main 0 1 (.inr ⟨rfl, rfl⟩) e
  · exact main 1 0 (.inl ⟨rfl, rfl⟩) e

theorem cert_player (how : Owned g) (hs : ∀ v u, u ∈ gNxt g v → u < g.length) (hoq : (o = 1 ∧ q = 0) ∨ (o = 0 ∧ q = 1)) : ∃ σ, Cert g (· < g.length) o (fun v => Att g o q v ∨ Reg g o (restF g) g.length v) σ := by
  have hne : q ≠ o := by omega
  obtain ⟨τ, hU⟩ := Attr.rcert (g := g) (alive := wholeF g) (o := o) (set := stuckF g q) (fun v => stuck_whole) (T := fun v => inS (stuckF g q) v = true) (fun v => Iff.rfl)
  obtain ⟨ρ, hL⟩ := RCert.join (stuck_cert hne) hU
  have hL2 : Cert g (fun v => inS (wholeF g) v = true) o (fun v => Att g o q v) ρ := hL.congr fun v => ⟨fun h => h.elim (fun h => .base h) (fun h => h.1), fun h => by
    cases c : inS (stuckF g q) v with
    | true => exact .inl rfl
    | false => exact .inr ⟨h, rfl⟩⟩
  have hrl : (restF g).length = g.length := setOf_len _ _
  obtain ⟨σ, hR⟩ := region_cert how g.length (restF g) hrl (by have := cntT_le (restF g); rw [hrl] at this; exact this) (total_rest how hs) o (by omega)
  obtain ⟨κ, hK⟩ := RCert.join hL2 (hR.relax2 (T := fun v => Att g o q v) (al' := fun v => inS (wholeF g) v = true) (fun v h => whole_in.2 ((inS_rest.1 h).1)) (fun v hv ho u hu ha => by
    obtain ⟨h0, h1, h2⟩ := (rest_sym hoq).1 hv.1
    by_cases c : Att g o q u
    · exact .inr c
    · refine .inl ((rest_sym hoq).2 ⟨hs _ _ hu, c, fun hA => h2 (.own (whole_in.2 h0) ?_ hu ha hA)⟩)
      rcases how v h0 with e | e <;> omega))
  exact ⟨κ, (hK.lift (al' := (· < g.length)) (fun v h => whole_in.1 h) (fun v _ _ u hu ha => whole_in.2 ha))⟩

/-- Vertex v is won by player 1. -/
noncomputable def wonB (g : DV) (v : Nat) : Bool := inS (oneF g) v || (!inS (zeroF g) v && inS (winF g g.length (restF g)) v)
theorem winnersF_won (g : DV) : winnersF g = (List.range g.length).map fun v => if wonB g v then 1 else 0 := rfl
theorem won_true {v : Nat} : (Att g 1 0 v ∨ Reg g 1 (restF g) g.length v) ↔ v < g.length ∧ wonB g v = true := by
  unfold wonB
  rw [Bool.or_eq_true, Bool.and_eq_true, Bool.not_eq_true', inS_oneF]
  constructor
  · rintro (h | h)
    · exact ⟨whole_in.1 (h.sub fun v => stuck_whole), .inl h⟩
    · obtain ⟨a, b, c⟩ := inS_rest.1 h.1
      exact ⟨a, .inr ⟨by rw [← Bool.not_eq_true, inS_zeroF]; exact b, by have := h.2; simpa using this⟩⟩
  · rintro ⟨hv, h | h⟩
    · exact .inl h
    · exact .inr ⟨winF_sub _ _ _ h.2, by rw [h.2]; rfl⟩
theorem won_false {v : Nat} : (Att g 0 1 v ∨ Reg g 0 (restF g) g.length v) ↔ v < g.length ∧ wonB g v = false := by
  constructor
  · rintro (h | h)
    · have h1 : inS (oneF g) v = false := Bool.eq_false_iff.2 fun c => one_not_zero (inS_oneF.1 c) h
      have h2 : inS (zeroF g) v = true := inS_zeroF.2 h
      exact ⟨whole_in.1 (h.sub fun v => stuck_whole), by unfold wonB; rw [h1, h2]; rfl⟩
    · obtain ⟨a, b, c⟩ := inS_rest.1 h.1
      have h1 : inS (oneF g) v = false := Bool.eq_false_iff.2 fun c' => c (inS_oneF.1 c')
      exact ⟨a, by unfold wonB; rw [h1, h.2]; simp⟩
  · rintro ⟨hv, h⟩
    unfold wonB at h
    rw [Bool.or_eq_false_iff] at h
    by_cases c : Att g 0 1 v
    · exact .inl c
    · have h1 : ¬ Att g 1 0 v := fun c' => by have := inS_oneF.2 c'; rw [h.1] at this; cases this
      have h2 : inS (zeroF g) v = false := Bool.eq_false_iff.2 fun c' => c (inS_zeroF.1 c')
      rw [h2] at h
      exact .inr ⟨inS_rest.2 ⟨hv, c, h1⟩, by simpa using h.2⟩

theorem cert_one (how : Owned g) (hs : ∀ v u, u ∈ gNxt g v → u < g.length) : ∃ σ, Cert g (· < g.length) 1 (fun v => v < g.length ∧ wonB g v = true) σ := by
  obtain ⟨σ, h⟩ := cert_player (o := 1) (q := 0) how hs (.inl ⟨rfl, rfl⟩)
  exact ⟨σ, h.congr fun v => won_true⟩
theorem cert_zero (how : Owned g) (hs : ∀ v u, u ∈ gNxt g v → u < g.length) : ∃ σ, Cert g (· < g.length) 0 (fun v => v < g.length ∧ wonB g v = false) σ := by
  obtain ⟨σ, h⟩ := cert_player (o := 0) (q := 1) how hs (.inr ⟨rfl, rfl⟩)
  exact ⟨σ, h.congr fun v => won_false⟩
/-- Whoever has a strategy is the winner. -/
theorem cert_won1 (how : Owned g) (hs : ∀ v u, u ∈ gNxt g v → u < g.length) {W : Nat → Prop} {σ : Nat → Nat} (h : Cert g (· < g.length) 1 W σ) {v : Nat} (hv : W v) : wonB g v = true := by
  obtain ⟨τ, k⟩ := cert_zero how hs
  cases c : wonB g v with
  | true => rfl
  | false => exact (k.apart how h hs ⟨h.sub v hv, c⟩ hv).elim
theorem cert_won0 (how : Owned g) (hs : ∀ v u, u ∈ gNxt g v → u < g.length) {W : Nat → Prop} {σ : Nat → Nat} (h : Cert g (· < g.length) 0 W σ) {v : Nat} (hv : W v) : wonB g v = false := by
  obtain ⟨τ, k⟩ := cert_one how hs
  cases c : wonB g v with
  | false => rfl
  | true => exact (h.apart how k hs hv ⟨h.sub v hv, c⟩).elim

/-- g' is g but for the moves of v, of which n is left. -/
structure Fixed (g g' : DV) (v n : Nat) : Prop where
  len : g'.length = g.length
  own : ∀ u, gOwn g' u = gOwn g u
  pri : ∀ u, gPri g' u = gPri g u
  nxt : ∀ u, u ≠ v → gNxt g' u = gNxt g u
  one : gNxt g' v = [n]
theorem Fixed.cert {g' : DV} {v n : Nat} (h : Fixed g g' v n) (hn : n ∈ gNxt g v) {W : Nat → Prop} {σ : Nat → Nat} (k : Cert g (· < g.length) o W σ) (hσ : W v → gOwn g v = o ∧ σ v = n) : Cert g' (· < g'.length) o W σ := by
  have sub : ∀ u x, x ∈ gNxt g' u → x ∈ gNxt g u := fun u x hx => by
    by_cases e : u = v
    · subst e; rw [h.one] at hx; rw [List.mem_singleton.1 hx]; exact hn
    · rwa [h.nxt u e] at hx
  refine ⟨fun u hu => by rw [h.len]; exact k.sub u hu, fun u hu ho => ?_, fun u hu ho x hx ha => ?_, fun p hp => ?_⟩
  · rw [h.own] at ho
    obtain ⟨a, b⟩ := k.own u hu ho
    refine ⟨?_, b⟩
    by_cases e : u = v
    · subst e; rw [h.one, (hσ hu).2]; exact List.mem_singleton.2 rfl
    · rwa [h.nxt u e]
  · rw [h.own] at ho
    exact k.opp u hu ho x (sub u x hx) (by rw [← h.len]; exact ha)
  · have := k.win p ⟨hp.mem, fun i => sub _ _ (hp.go i), fun i ho => hp.own i (by rw [h.own]; exact ho)⟩
    unfold GoodP at *
    simp only [h.pri]
    exact this
end


/-- The moves of v written anew. -/
def putN (g : DV) (v : Nat) (l : List Int) : DV := g.set v (gOwn g v, gPri g v, l)
theorem putN_len (g : DV) (v : Nat) (l : List Int) : (putN g v l).length = g.length := by simp [putN]
theorem GameOk.putN {g : DV} (ok : GameOk g) {v : Nat} (hv : v < g.length) {n : Int} (hn : 0 ≤ n ∧ n < g.length) : GameOk (putN g v [n]) := by
  obtain ⟨⟨o, p, l⟩, h⟩ : ∃ x, g[v]? = some x := ⟨_, List.getElem?_eq_getElem hv⟩
  have h1 := ok.at_ h
  refine ⟨by rw [putN_len]; exact ok.1, fun x hx => ?_⟩
  rw [putN_len]
  rcases List.mem_or_eq_of_mem_set hx with hx | hx
  · exact ok.2 x hx
  · subst hx
    rw [gOwn_at h, gPri_at h]
    exact ⟨h1.1, h1.2.1, fun y hy => by rw [List.mem_singleton.1 hy]; exact hn, List.pairwise_singleton _ _⟩
/-- The winner of a vertex. -/
noncomputable def wonI (g : DV) (v : Nat) : Int := if wonB g v then 1 else 0
theorem winnersF_at {g : DV} {v : Nat} (hv : v < g.length) : (winnersF g)[v]? = some (wonI g v) := by rw [winnersF_won, List.getElem?_map, List.getElem?_range hv]; rfl
/-- A move of v keeps the winners W if it is fixed. -/
noncomputable def keeps (W : List Int) (g : DV) (v : Nat) (n : Int) : Bool := decide (winnersF (putN g v [n]) = W)
end Go.Proofs.YtanlgnjgpbjebaaGreatDoor
