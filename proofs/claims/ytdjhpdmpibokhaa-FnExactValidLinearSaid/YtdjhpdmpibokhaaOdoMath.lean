/-
  Going through all lists of values within bounds, plainly. Conditions: none.
-/
import Derived.Test.YtdjhpdmpibokhaaEvalMath
namespace Go.Proofs.Ytdjhpdmpibokhaa

/-- The next one, the last place first. -/
def incR : List Int → List Int → Option (List Int)
  | v :: vs, b :: bs => if v < b then some ((v + 1) :: vs) else (incR vs bs).map (0 :: ·)
  | _, _ => none
def nextV (vals bs : List Int) : Option (List Int) := (incR vals.reverse bs.reverse).map List.reverse

def okR : List Int → List Int → Prop
  | [], [] => True
  | v :: vs, b :: bs => 0 ≤ v ∧ v ≤ b ∧ okR vs bs
  | _, _ => False
def prodR : List Int → Nat
  | [] => 1
  | b :: bs => (b + 1).toNat * prodR bs
def rankR : List Int → List Int → Nat
  | v :: vs, b :: bs => v.toNat + (b + 1).toNat * rankR vs bs
  | _, _ => 0

theorem rank_lt : ∀ (vs bs : List Int), okR vs bs → rankR vs bs < prodR bs := by
  intro vs
  induction vs with
  | nil =>
    intro bs h
    cases bs with
    | nil => simp [rankR, prodR]
    | cons b bs => exact h.elim
  | cons v vs ih =>
    intro bs h
    cases bs with
    | nil => exact h.elim
    | cons b bs =>
      obtain ⟨h1, h2, h3⟩ := h
      have h4 := ih bs h3
      simp only [rankR, prodR]
      have h5 : (b + 1).toNat * (rankR vs bs + 1) ≤ (b + 1).toNat * prodR bs := Nat.mul_le_mul_left _ h4
      rw [Nat.mul_add] at h5
      omega
theorem inc_rank : ∀ (vs bs vs' : List Int), okR vs bs → incR vs bs = some vs' → okR vs' bs ∧ rankR vs' bs = rankR vs bs + 1 := by
  intro vs
  induction vs with
  | nil => intro bs vs' h hi; simp [incR] at hi
  | cons v vs ih =>
    intro bs vs' h hi
    cases bs with
    | nil => exact h.elim
    | cons b bs =>
      obtain ⟨h1, h2, h3⟩ := h
      simp only [incR] at hi
      split at hi
      · rename_i hlt
        injection hi with hi
        subst hi
        refine ⟨⟨by omega, by omega, h3⟩, ?_⟩
        simp only [rankR]
        omega
      · rename_i hge
        cases hq : incR vs bs with
        | none => rw [hq] at hi; simp at hi
        | some q =>
          rw [hq] at hi
          simp at hi
          subst hi
          obtain ⟨h5, h6⟩ := ih bs q h3 hq
          refine ⟨⟨by omega, by omega, h5⟩, ?_⟩
          simp only [rankR, h6, Nat.mul_add]
          omega

/-- Valid values for bounds, and how many lists are still to come, this one counted. -/
def okV (vals bs : List Int) : Prop := okR vals.reverse bs.reverse
def restV (vals bs : List Int) : Nat := prodR bs.reverse - rankR vals.reverse bs.reverse
theorem rest_pos {vals bs : List Int} (h : okV vals bs) : 0 < restV vals bs := by
  have := rank_lt _ _ h
  unfold restV
  omega
theorem next_ok {vals bs v' : List Int} (h : okV vals bs) (hn : nextV vals bs = some v') : okV v' bs ∧ restV v' bs + 1 = restV vals bs := by
  unfold nextV at hn
  cases hq : incR vals.reverse bs.reverse with
  | none => rw [hq] at hn; simp at hn
  | some q =>
    rw [hq] at hn
    simp at hn
    subst hn
    obtain ⟨h1, h2⟩ := inc_rank _ _ _ h hq
    have h3 := rank_lt _ _ h
    have h4 := rank_lt _ _ h1
    unfold okV restV
    rw [List.reverse_reverse]
    exact ⟨h1, by omega⟩

theorem okR_len : ∀ (vs bs : List Int), okR vs bs → vs.length = bs.length := by
  intro vs
  induction vs with
  | nil => intro bs h; cases bs with
    | nil => rfl
    | cons b bs => exact h.elim
  | cons v vs ih => intro bs h; cases bs with
    | nil => exact h.elim
    | cons b bs => simp [ih bs h.2.2]
theorem okR_zero : ∀ (bs : List Int), (∀ b ∈ bs, 0 ≤ b) → okR (List.replicate bs.length 0) bs := by
  intro bs
  induction bs with
  | nil => intro _; trivial
  | cons b bs ih => intro h; exact ⟨by omega, h b (List.mem_cons_self ..), ih fun b hb => h b (List.mem_cons_of_mem _ hb)⟩
theorem okV_zero (bs : List Int) (h : ∀ b ∈ bs, 0 ≤ b) : okV (List.replicate bs.length 0) bs := by
  unfold okV
  rw [List.reverse_replicate]
  have := okR_zero bs.reverse (fun b hb => h b (List.mem_reverse.1 hb))
  rwa [List.length_reverse] at this
theorem okR_mem : ∀ (vs bs : List Int), okR vs bs → (∀ b ∈ bs, b ≤ 63) → ∀ v ∈ vs, 0 ≤ v ∧ v ≤ 63 := by
  intro vs
  induction vs with
  | nil => intro bs _ _ v hv; cases hv
  | cons x vs ih =>
    intro bs h hb v hv
    cases bs with
    | nil => exact h.elim
    | cons b bs =>
      rcases List.mem_cons.1 hv with rfl | hv
      · have := hb b (List.mem_cons_self ..); have := h.1; have := h.2.1; omega
      · exact ih bs h.2.2 (fun b hb' => hb b (List.mem_cons_of_mem _ hb')) v hv
theorem okV_mem {vals bs : List Int} (h : okV vals bs) (hb : ∀ b ∈ bs, b ≤ 63) : ∀ v ∈ vals, 0 ≤ v ∧ v ≤ 63 := fun v hv =>
  okR_mem _ _ h (fun b hb' => hb b (List.mem_reverse.1 hb')) v (List.mem_reverse.2 hv)
theorem okV_len {vals bs : List Int} (h : okV vals bs) : vals.length = bs.length := by
  have := okR_len _ _ h
  simpa using this

/-- One place looked at from the right: what the next one comes to. -/
theorem next_step {vals bs : List Int} {j : Nat} {v b : Int} (hv : vals[j]? = some v) (hb : bs[j]? = some b) :
    incR (vals.take (j + 1)).reverse (bs.take (j + 1)).reverse = if v < b then some ((v + 1) :: (vals.take j).reverse) else (incR (vals.take j).reverse (bs.take j).reverse).map (0 :: ·) := by
  rw [List.take_add_one, List.take_add_one, hv, hb]
  simp only [Option.toList_some, List.reverse_append, List.reverse_singleton, List.singleton_append, incR]

/-- Going through all: what a state comes to, and whether to go on. -/
def iterN {σ : Type} (upd : σ → List Int → σ) (go : List Int → Bool) (bs : List Int) : Nat → List Int → σ → σ
  | 0, _, s => s
  | k + 1, v, s => if go v then match nextV v bs with | none => upd s v | some v' => iterN upd go bs k v' (upd s v) else upd s v

theorem okR_get : ∀ (vs bs : List Int), okR vs bs → ∀ (i : Nat) (x y : Int), vs[i]? = some x → bs[i]? = some y → 0 ≤ x ∧ x ≤ y := by
  intro vs
  induction vs with
  | nil => intro bs _ i x y h; simp at h
  | cons v vs ih =>
    intro bs h i x y hx hy
    cases bs with
    | nil => exact h.elim
    | cons b bs =>
      cases i with
      | zero => simp at hx hy; subst hx hy; exact ⟨h.1, h.2.1⟩
      | succ i => simp at hx hy; exact ih bs h.2.2 i x y hx hy
theorem okV_at {vals bs : List Int} (h : okV vals bs) {j : Nat} {x y : Int} (hx : vals[j]? = some x) (hy : bs[j]? = some y) : 0 ≤ x ∧ x ≤ y := by
  have hl := okV_len h
  have hj : j < vals.length := (List.getElem?_eq_some_iff.1 hx).1
  refine okR_get _ _ h (vals.length - 1 - j) x y ?_ ?_
  · rw [List.getElem?_reverse (by omega), show vals.length - 1 - (vals.length - 1 - j) = j from by omega]; exact hx
  · rw [List.getElem?_reverse (by omega), hl, show bs.length - 1 - (bs.length - 1 - j) = j from by omega]; exact hy
theorem iter_stop {σ : Type} {upd : σ → List Int → σ} {go : List Int → Bool} {bs v : List Int} {k : Nat} {s : σ} (hk : 0 < k) (hg : go v = false) : iterN upd go bs k v s = upd s v := by
  cases k with
  | zero => omega
  | succ k => simp [iterN, hg]
theorem iter_last {σ : Type} {upd : σ → List Int → σ} {go : List Int → Bool} {bs v : List Int} {k : Nat} {s : σ} (hk : 0 < k) (hn : nextV v bs = none) : iterN upd go bs k v s = upd s v := by
  cases k with
  | zero => omega
  | succ k => simp [iterN, hn]
theorem iter_next {σ : Type} {upd : σ → List Int → σ} {go : List Int → Bool} {bs v v' : List Int} {k : Nat} {s : σ} (hg : go v = true) (hn : nextV v bs = some v') : iterN upd go bs (k + 1) v s = iterN upd go bs k v' (upd s v) := by
  simp [iterN, hg, hn]

end Go.Proofs.Ytdjhpdmpibokhaa
