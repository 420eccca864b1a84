/-
  Plain facts on expressions in prefix form: a segment is one operation with its operands; a stack machine that reads from the right. Conditions: none.
-/
import Derived.Test.YtdjhpdmpibokhaaTermMath
namespace Go.Proofs.Ytdjhpdmpibokhaa

/-- e is one operation with its operands, nested at most d deep. -/
def Seg : Nat → List (Int × Int) → Prop
  | 0, _ => False
  | d + 1, e => ∃ (t : Int × Int) (segs : List (List (Int × Int))), e = t :: segs.flatten ∧ (segs.length : Int) = arity t ∧ ∀ s ∈ segs, Seg d s

/-- The stack behind reading a list from the right. -/
def stk {β : Type} (f : Int × Int → List β → β) : List (Int × Int) → List β
  | [] => []
  | t :: r => f t ((stk f r).take (arity t).toNat) :: (stk f r).drop (arity t).toNat
/-- What one segment comes to. -/
def sval {β : Type} (f : Int × Int → List β → β) (z : β) (e : List (Int × Int)) : β := (stk f e).headD z

theorem stk_segs {β : Type} {f : Int × Int → List β → β} {z : β} : ∀ (segs : List (List (Int × Int))) (r : List (Int × Int)), (∀ s ∈ segs, ∀ r, stk f (s ++ r) = sval f z s :: stk f r) → stk f (segs.flatten ++ r) = segs.map (sval f z) ++ stk f r := by
  intro segs
  induction segs with
  | nil => intro r _; rfl
  | cons s segs ih =>
    intro r h
    rw [List.flatten_cons, List.append_assoc, h s (List.mem_cons_self ..), ih r (fun s hs => h s (List.mem_cons_of_mem _ hs))]
    rfl

theorem stk_seg {β : Type} {f : Int × Int → List β → β} {z : β} : ∀ (d : Nat) (e : List (Int × Int)), Seg d e → ∀ r, stk f (e ++ r) = sval f z e :: stk f r := by
  intro d
  induction d with
  | zero => intro e h; exact h.elim
  | succ d ih =>
    intro e h r
    obtain ⟨t, segs, rfl, hl, hs⟩ := h
    have key : ∀ r, stk f ((t :: segs.flatten) ++ r) = f t (segs.map (sval f z)) :: stk f r := by
      intro r
      rw [List.cons_append, stk, stk_segs segs r (fun s hm => ih s (hs s hm))]
      have hn : (arity t).toNat = (segs.map (sval f z)).length := by rw [List.length_map]; omega
      rw [hn, List.take_left, List.drop_left]
    have k0 := key []
    rw [List.append_nil] at k0
    rw [key r, sval, k0]
    rfl

theorem sval_node {β : Type} {f : Int × Int → List β → β} {z : β} {d : Nat} {t : Int × Int} {segs : List (List (Int × Int))} (hl : (segs.length : Int) = arity t) (hs : ∀ s ∈ segs, Seg d s) :
    sval f z (t :: segs.flatten) = f t (segs.map (sval f z)) := by
  have h := stk_segs (f := f) (z := z) segs [] (fun s hm => stk_seg d s (hs s hm))
  rw [List.append_nil] at h
  unfold sval
  rw [stk, h]
  have hn : (arity t).toNat = (segs.map (sval f z)).length := by rw [List.length_map]; omega
  simp only [List.headD_cons]
  congr 1
  rw [hn]
  show (segs.map (sval f z) ++ stk f []).take _ = _
  rw [List.take_left]
  rfl

theorem Seg.mono {d : Nat} {e : List (Int × Int)} (h : Seg d e) : ∀ k, d ≤ k → Seg k e := by
  induction d generalizing e with
  | zero => exact h.elim
  | succ d ih =>
    intro k hk
    obtain ⟨t, segs, rfl, hl, hs⟩ := h
    cases k with
    | zero => omega
    | succ k => exact ⟨t, segs, rfl, hl, fun s hm => ih (hs s hm) k (by omega)⟩

theorem Seg.pos {d : Nat} {e : List (Int × Int)} (h : Seg d e) : 0 < e.length := by
  cases d with
  | zero => exact h.elim
  | succ d =>
    obtain ⟨t, segs, rfl, _⟩ := h
    simp

theorem isLoop_cons {t : Int × Int} {r : List (Int × Int)} {v q : Int} (h : isLoop (t :: r) v q = true) : q ≠ 0 ∧ okTerm t v = true ∧ isLoop r v (q + arity t - 1) = true := by
  simp only [isLoop] at h
  split at h
  · cases h
  · split at h
    · rename_i h1 h2
      exact ⟨h1, h2, h⟩
    · cases h
theorem isLoop_zero_nil {r : List (Int × Int)} {v : Int} (h : isLoop r v 0 = true) : r = [] := by
  cases r with
  | nil => rfl
  | cons t r => exact absurd rfl (isLoop_cons h).1
theorem isLoop_pos {r : List (Int × Int)} {v q : Int} (h : isLoop r v q = true) (hq : q ≠ 0) : 0 < r.length := by
  cases r with
  | nil => simp [isLoop] at h; exact absurd h hq
  | cons t r => simp

/-- The length of the stack behind a valid rest. -/
theorem stk_len {β : Type} (f : Int × Int → List β → β) {v : Int} : ∀ (l : List (Int × Int)) (q : Int), isLoop l v q = true → 0 ≤ q → ((stk f l).length : Int) = q := by
  intro l
  induction l with
  | nil => intro q h _; simp [isLoop] at h; simp [stk, h]
  | cons t r ih =>
    intro q h h0
    obtain ⟨h1, _, h3⟩ := isLoop_cons h
    have hab := arity_bd t
    have h4 := ih _ h3 (by omega)
    simp only [stk, List.length_cons, List.length_drop]
    omega
theorem isLoop_drop {v : Int} : ∀ (k : Nat) (l : List (Int × Int)) (q : Int), isLoop l v q = true → 0 ≤ q → k ≤ l.length → ∃ q', 0 ≤ q' ∧ isLoop (l.drop k) v q' = true := by
  intro k
  induction k with
  | zero => intro l q h h0 _; exact ⟨q, h0, h⟩
  | succ k ih =>
    intro l q h h0 hk
    cases l with
    | nil => simp at hk
    | cons t r =>
      obtain ⟨h1, _, h3⟩ := isLoop_cons h
      have hab := arity_bd t
      simp at hk
      exact ih r _ h3 (by omega) hk

/-- Postfix form. -/
def fpost (t : Int × Int) (args : List (List (Int × Int))) : List (Int × Int) := args.flatten ++ [t]
def postOf (e : List (Int × Int)) : List (Int × Int) := sval fpost [] e

theorem flat_map_len {P : List (Int × Int) → List (Int × Int)} : ∀ (segs : List (List (Int × Int))) (k : Nat), (∀ s ∈ segs, (P s).length = s.length) → ((segs.take k).map P).flatten.length ≤ segs.flatten.length := by
  intro segs
  induction segs with
  | nil => intro k _; simp
  | cons s segs ih =>
    intro k h
    cases k with
    | zero => simp
    | succ k =>
      rw [List.take_succ_cons, List.map_cons, List.flatten_cons, List.flatten_cons, List.length_append, List.length_append, h s (List.mem_cons_self ..)]
      have := ih k (fun s hs => h s (List.mem_cons_of_mem _ hs))
      omega
theorem flat_map_len_eq {P : List (Int × Int) → List (Int × Int)} : ∀ (segs : List (List (Int × Int))), (∀ s ∈ segs, (P s).length = s.length) → (segs.map P).flatten.length = segs.flatten.length := by
  intro segs
  induction segs with
  | nil => intro _; simp
  | cons s segs ih =>
    intro h
    rw [List.map_cons, List.flatten_cons, List.flatten_cons, List.length_append, List.length_append, h s (List.mem_cons_self ..), ih (fun s hs => h s (List.mem_cons_of_mem _ hs))]

theorem postOf_node {d : Nat} {t : Int × Int} {segs : List (List (Int × Int))} (hl : (segs.length : Int) = arity t) (hs : ∀ s ∈ segs, Seg d s) : postOf (t :: segs.flatten) = (segs.map postOf).flatten ++ [t] :=
  sval_node (f := fpost) (z := []) hl hs

theorem post_len : ∀ (d : Nat) (e : List (Int × Int)), Seg d e → (postOf e).length = e.length := by
  intro d
  induction d with
  | zero => intro e h; exact h.elim
  | succ d ih =>
    intro e h
    obtain ⟨t, segs, rfl, hl, hs⟩ := h
    rw [postOf_node hl hs, List.length_append, flat_map_len_eq segs (fun s hm => ih s (hs s hm))]
    rfl

theorem flat_take_succ {P : List (Int × Int) → List (Int × Int)} {segs : List (List (Int × Int))} {k : Nat} {s : List (Int × Int)} (hs : segs[k]? = some s) :
    ((segs.take (k + 1)).map P).flatten = ((segs.take k).map P).flatten ++ P s := by
  rw [List.take_add_one, hs]
  simp

/-- What PostfixOf answers. -/
def postfixOfF (l : List (Int × Int)) : List (Int × Int) × Int := if isTerms l 29 60 = true then (postOf l, 0) else ([], 1)

theorem stk_post_len : ∀ (l : List (Int × Int)), (stk fpost l).flatten.length = l.length := by
  intro l
  induction l with
  | nil => rfl
  | cons t r ih =>
    simp only [stk, List.flatten_cons, fpost, List.length_append, List.length_cons, List.length_nil]
    have h : ((stk fpost r).take (arity t).toNat).flatten.length + ((stk fpost r).drop (arity t).toNat).flatten.length = (stk fpost r).flatten.length := by
      rw [← List.length_append, ← List.flatten_append, List.take_append_drop]
    omega
theorem stk_le {β : Type} (f : Int × Int → List β → β) : ∀ (l : List (Int × Int)), (stk f l).length ≤ l.length := by
  intro l
  induction l with
  | nil => exact Nat.le_refl _
  | cons t r ih => simp only [stk, List.length_cons, List.length_drop]; omega
theorem flatten_mem_len {β : Type} : ∀ (S : List (List β)) (s : List β), s ∈ S → s.length ≤ S.flatten.length := by
  intro S
  induction S with
  | nil => intro s h; cases h
  | cons x S ih =>
    intro s h
    rw [List.flatten_cons, List.length_append]
    rcases List.mem_cons.1 h with rfl | h
    · omega
    · have := ih s h; omega
theorem flatten_take_len {β : Type} (S : List (List β)) (k : Nat) : (S.take k).flatten.length ≤ S.flatten.length := by
  have h : (S.take k).flatten.length + (S.drop k).flatten.length = S.flatten.length := by
    rw [← List.length_append, ← List.flatten_append, List.take_append_drop]
  omega
/-- The stack at j, in a valid list: how deep it is. -/
theorem stk_at {l : List (Int × Int)} (hl : isLoop l 29 1 = true) {j : Nat} {x : Int × Int} (hx : l[j]? = some x) : stk fpost (l.drop j) = fpost x ((stk fpost (l.drop (j + 1))).take (arity x).toNat) :: (stk fpost (l.drop (j + 1))).drop (arity x).toNat ∧
    arity x ≤ ((stk fpost (l.drop (j + 1))).length : Int) := by
  obtain ⟨hk, rfl⟩ := List.getElem?_eq_some_iff.1 hx
  obtain ⟨q, hq0, hq⟩ := isLoop_drop j l 1 hl (by omega) (by omega)
  rw [List.drop_eq_getElem_cons hk] at hq ⊢
  obtain ⟨h1, _, h3⟩ := isLoop_cons hq
  have hab := arity_bd l[j]
  refine ⟨rfl, ?_⟩
  have := stk_len fpost _ _ h3 (by omega)
  omega

end Go.Proofs.Ytdjhpdmpibokhaa
