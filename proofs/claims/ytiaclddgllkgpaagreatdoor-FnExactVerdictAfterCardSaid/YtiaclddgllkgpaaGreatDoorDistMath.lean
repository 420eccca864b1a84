/-
  Distances in a graph: by a queue and by rounds, both the least number of arcs. Conditions: none.
-/
namespace Go.Proofs.YtiaclddgllkgpaaGreatDoor
set_option linter.unusedVariables false

section
variable (src : Nat → Prop) (arc : Nat → Nat → Prop)
/-- Reached by at most n arcs. -/
def lay : Nat → Nat → Prop
  | 0, k => src k
  | n + 1, k => lay n k ∨ ∃ a, lay n a ∧ arc a k
theorem lay_mono {n m k : Nat} (h : lay src arc n k) (hm : n ≤ m) : lay src arc m k := by
  induction m with
  | zero =>
    have : n = 0 := by omega
    subst this; exact h
  | succ m ih =>
    rcases Nat.lt_or_ge m n with h1 | h1
    · have : n = m + 1 := by omega
      subst this; exact h
    · exact .inl (ih h1)
/-- The least number of arcs is d. -/
def least (d k : Nat) : Prop := lay src arc d k ∧ ∀ m, m < d → ¬ lay src arc m k
theorem least_uniq {d e k : Nat} (h : least src arc d k) (g : least src arc e k) : d = e := by
  rcases Nat.lt_trichotomy d e with h1 | h1 | h1
  · exact absurd h.1 (g.2 d h1)
  · exact h1
  · exact absurd g.1 (h.2 e h1)
theorem least_of {n k : Nat} (h : lay src arc n k) : ∃ d, d ≤ n ∧ least src arc d k := by
  induction n with
  | zero => exact ⟨0, Nat.le_refl _, h, fun m hm => absurd hm (by omega)⟩
  | succ n ih =>
    by_cases h1 : lay src arc n k
    · obtain ⟨d, h2, h3⟩ := ih h1
      exact ⟨d, by omega, h3⟩
    · refine ⟨n + 1, Nat.le_refl _, h, fun m hm hl => h1 (lay_mono src arc hl (by omega))⟩
theorem least_pred {n k : Nat} (h : least src arc (n + 1) k) : ∃ a, least src arc n a ∧ arc a k := by
  obtain ⟨h1, h2⟩ := h
  rcases h1 with h1 | ⟨a, ha, hk⟩
  · exact absurd h1 (h2 n (by omega))
  · refine ⟨a, ⟨ha, fun m hm hl => ?_⟩, hk⟩
    exact h2 (m + 1) (by omega) (.inr ⟨a, hl, hk⟩)

/-- The numbers that a list of distances tells: the least number of arcs, or a negative one. -/
def DistIs (n : Nat) (out : List Int) : Prop := out.length = n ∧ ∀ (k : Nat) (x : Int), out[k]? = some x → (0 ≤ x → least src arc x.toNat k) ∧ (x < 0 → x = -1 ∧ ∀ m, ¬ lay src arc m k)
theorem DistIs.uniq {n : Nat} {a b : List Int} (h : DistIs src arc n a) (g : DistIs src arc n b) : a = b := by
  apply List.ext_getElem?
  intro k
  by_cases hk : k < n
  · have ha : a[k]? = some (a[k]'(by rw [h.1]; exact hk)) := List.getElem?_eq_getElem _
    have hb : b[k]? = some (b[k]'(by rw [g.1]; exact hk)) := List.getElem?_eq_getElem _
    rw [ha, hb]
    generalize (a[k]'(by rw [h.1]; exact hk)) = x at *
    generalize (b[k]'(by rw [g.1]; exact hk)) = y at *
    obtain ⟨h1, h2⟩ := h.2 k x ha
    obtain ⟨g1, g2⟩ := g.2 k y hb
    by_cases hx : 0 ≤ x
    · by_cases hy : 0 ≤ y
      · have := least_uniq src arc (h1 hx) (g1 hy)
        congr 1
        omega
      · exact absurd (h1 hx).1 ((g2 (by omega)).2 _)
    · by_cases hy : 0 ≤ y
      · exact absurd (g1 hy).1 ((h2 (by omega)).2 _)
      · rw [(h2 (by omega)).1, (g2 (by omega)).1]
  · rw [List.getElem?_eq_none (by rw [h.1]; omega), List.getElem?_eq_none (by rw [g.1]; omega)]

/-! ## By rounds -/
/-- What is told behind n rounds. -/
def RoundIs (N n : Nat) (out : List Int) : Prop := out.length = N ∧ ∀ (k : Nat) (x : Int), out[k]? = some x → (0 ≤ x → least src arc x.toNat k ∧ x ≤ n) ∧ (x < 0 → x = -1 ∧ ¬ lay src arc n k)
theorem RoundIs.start {N : Nat} {out : List Int} (hl : out.length = N) (h : ∀ (k : Nat) (x : Int), out[k]? = some x → (x = 0 ∧ src k) ∨ (x = -1 ∧ ¬ src k)) : RoundIs src arc N 0 out := by
  refine ⟨hl, fun k x hx => ?_⟩
  rcases h k x hx with ⟨rfl, hs⟩ | ⟨rfl, hs⟩
  · exact ⟨fun _ => ⟨⟨hs, fun m hm => absurd hm (by omega)⟩, by omega⟩, fun h => absurd h (by omega)⟩
  · exact ⟨fun h => absurd h (by omega), fun _ => ⟨rfl, hs⟩⟩
theorem RoundIs.done {N n : Nat} {out : List Int} (h : RoundIs src arc N n out) (hin : ∀ a k, arc a k → a < N ∧ k < N) (hsrc : ∀ k, src k → k < N)
    (hstop : ∀ (a k : Nat) (x y : Int), arc a k → out[a]? = some x → out[k]? = some y → 0 ≤ x → 0 ≤ y) : DistIs src arc N out := by
  refine ⟨h.1, fun k x hx => ⟨fun h0 => ((h.2 k x hx).1 h0).1, fun h0 => ⟨((h.2 k x hx).2 h0).1, ?_⟩⟩⟩
  have key : ∀ (m k : Nat), lay src arc m k → k < N ∧ ∀ x, out[k]? = some x → 0 ≤ x := by
    intro m
    induction m with
    | zero =>
      intro k hk
      refine ⟨hsrc k hk, fun x hx => ?_⟩
      rcases Int.lt_or_le x 0 with h1 | h1
      · exact absurd (lay_mono src arc (n := 0) (m := n) hk (Nat.zero_le _)) ((h.2 k x hx).2 h1).2
      · exact h1
    | succ m ih =>
      intro k hk
      rcases hk with hk | ⟨a, ha, hak⟩
      · exact ih k hk
      · obtain ⟨h1, h2⟩ := ih a ha
        refine ⟨(hin a k hak).2, fun x hx => ?_⟩
        have hax : out[a]? = some (out[a]'(by rw [h.1]; exact h1)) := List.getElem?_eq_getElem _
        exact hstop a k _ x hak hax hx (h2 _ hax)
  intro m hm
  have := (key m k hm).2 x hx
  omega
/-- In the middle of a round: next is out, and what was reached by one of the arcs looked at is n + 1. -/
def MidIs (N n : Nat) (seen : Nat → Nat → Prop) (out next : List Int) : Prop := next.length = N ∧ ∀ (k : Nat) (x : Int), out[k]? = some x →
  (0 ≤ x → next[k]? = some x) ∧ (x < 0 → ((∃ (a : Nat) (y : Int), seen a k ∧ out[a]? = some y ∧ 0 ≤ y) → next[k]? = some ((n : Int) + 1)) ∧ ((¬ ∃ (a : Nat) (y : Int), seen a k ∧ out[a]? = some y ∧ 0 ≤ y) → next[k]? = some x))
theorem MidIs.round {N n : Nat} {out next : List Int} (h : RoundIs src arc N n out) (g : MidIs N n arc out next) (hin : ∀ a k, arc a k → a < N ∧ k < N) : RoundIs src arc N (n + 1) next := by
  refine ⟨g.1, fun k y hy => ?_⟩
  have hk : k < N := by rw [← g.1]; exact (List.getElem?_eq_some_iff.1 hy).1
  have ho : out[k]? = some (out[k]'(by rw [h.1]; exact hk)) := List.getElem?_eq_getElem _
  generalize (out[k]'(by rw [h.1]; exact hk)) = x at ho
  obtain ⟨h1, h2⟩ := h.2 k x ho
  obtain ⟨g1, g2⟩ := g.2 k x ho
  by_cases hx : 0 ≤ x
  · have := g1 hx
    rw [hy] at this
    cases this
    exact ⟨fun _ => ⟨(h1 hx).1, by have := (h1 hx).2; omega⟩, fun h0 => absurd hx (by omega)⟩
  · obtain ⟨rfl, hnl⟩ := h2 (by omega)
    obtain ⟨g3, g4⟩ := g2 (by omega)
    by_cases hs : ∃ (a : Nat) (y : Int), arc a k ∧ out[a]? = some y ∧ 0 ≤ y
    · have := g3 hs
      rw [hy] at this
      cases this
      obtain ⟨a, z, ha, hz, hz0⟩ := hs
      have hla := (h.2 a z hz).1 hz0
      refine ⟨fun _ => ⟨⟨.inr ⟨a, lay_mono src arc hla.1.1 (by omega), ha⟩, fun m hm hl => hnl (lay_mono src arc hl (by omega))⟩, by omega⟩, fun h0 => absurd h0 (by omega)⟩
    · have := g4 hs
      rw [hy] at this
      cases this
      refine ⟨fun h0 => absurd h0 (by omega), fun _ => ⟨rfl, ?_⟩⟩
      rintro (hl | ⟨a, hl, ha⟩)
      · exact hnl hl
      · have hoa : out[a]? = some (out[a]'(by rw [h.1]; exact (hin a k ha).1)) := List.getElem?_eq_getElem _
        refine hs ⟨a, _, ha, hoa, ?_⟩
        rcases Int.lt_or_le (out[a]'(by rw [h.1]; exact (hin a k ha).1)) 0 with h5 | h5
        · exact absurd hl ((h.2 a _ hoa).2 h5).2
        · exact h5

/-! ## By a queue -/
/-- The queue's invariant: out tells the least numbers of what was found; what was found and is not in the queue has all its arcs' ends found. -/
structure QueIs (N : Nat) (out : List Int) (todo : List Nat) : Prop where
  len : out.length = N
  exact_ : ∀ (k : Nat) (x : Int), out[k]? = some x → (0 ≤ x → least src arc x.toNat k) ∧ (x < 0 → x = -1)
  src_ : ∀ k, src k → ∃ x : Int, out[k]? = some x ∧ 0 ≤ x
  todo_ : ∀ k, k ∈ todo → ∃ x : Int, out[k]? = some x ∧ 0 ≤ x
  done_ : ∀ (a k : Nat) (x : Int), out[a]? = some x → 0 ≤ x → a ∉ todo → arc a k → ∃ y : Int, out[k]? = some y ∧ 0 ≤ y
  sorted : todo.Pairwise fun a b => ∀ (x y : Int), out[a]? = some x → out[b]? = some y → x ≤ y
  near : ∀ a, todo.head? = some a → ∀ b, b ∈ todo → ∀ (x y : Int), out[a]? = some x → out[b]? = some y → y ≤ x + 1
theorem QueIs.done {N : Nat} {out : List Int} (h : QueIs src arc N out []) (hin : ∀ a k, arc a k → a < N ∧ k < N) (hsrc : ∀ k, src k → k < N) : DistIs src arc N out := by
  refine ⟨h.len, fun k x hx => ⟨(h.exact_ k x hx).1, fun h0 => ⟨(h.exact_ k x hx).2 h0, ?_⟩⟩⟩
  have key : ∀ m k, lay src arc m k → ∃ y : Int, out[k]? = some y ∧ 0 ≤ y := by
    intro m
    induction m with
    | zero => exact fun k hk => h.src_ k hk
    | succ m ih =>
      intro k hk
      rcases hk with hk | ⟨a, ha, hak⟩
      · exact ih k hk
      · obtain ⟨y, hy, hy0⟩ := ih a ha
        exact h.done_ a k y hy hy0 (by simp) hak
  intro m hm
  obtain ⟨y, hy, hy0⟩ := key m k hm
  rw [hx] at hy
  cases hy
  omega
theorem QueIs.found {N : Nat} {out : List Int} {k : Nat} {todo : List Nat} (h : QueIs src arc N out (k :: todo)) {m : Int} (hm : out[k]? = some m) : ∀ (d b : Nat), (d : Int) ≤ m → least src arc d b → ∃ y : Int, out[b]? = some y ∧ 0 ≤ y := by
  intro d
  induction d with
  | zero => exact fun b _ hb => h.src_ b hb.1
  | succ d ih =>
    intro b hd hb
    obtain ⟨a, ha, hab⟩ := least_pred src arc hb
    obtain ⟨y, hy, hy0⟩ := ih a (by omega) ha
    have hyd : y.toNat = d := least_uniq src arc ((h.exact_ a y hy).1 hy0) ha
    refine h.done_ a b y hy hy0 ?_ hab
    intro hin
    rcases List.mem_cons.1 hin with rfl | hin
    · rw [hm] at hy
      cases hy
      omega
    · have := (List.pairwise_cons.1 h.sorted).1 a hin m y hm hy
      omega
theorem QueIs.add {N : Nat} {out : List Int} {k b : Nat} {todo : List Nat} (h : QueIs src arc N out (k :: todo)) {m x : Int} (hm : out[k]? = some m) (hb : out[b]? = some x) (hx : x < 0) (hkb : arc k b) :
    QueIs src arc N (out.set b (m + 1)) (k :: (todo ++ [b])) := by
  have hm0 : 0 ≤ m := by
    obtain ⟨y, hy, hy0⟩ := h.todo_ k (by simp)
    rw [hm] at hy
    cases hy
    exact hy0
  have hbl : b < out.length := (List.getElem?_eq_some_iff.1 hb).1
  have hne : ∀ {j : Nat} {y : Int}, out[j]? = some y → 0 ≤ y → j ≠ b := by
    rintro j y hy hy0 rfl
    rw [hb] at hy
    cases hy
    omega
  have hkeep : ∀ {j : Nat} {y : Int}, out[j]? = some y → 0 ≤ y → (out.set b (m + 1))[j]? = some y := fun hy hy0 => by
    rw [List.getElem?_set_ne (fun e => hne hy hy0 e.symm)]
    exact hy
  have hself : (out.set b (m + 1))[b]? = some (m + 1) := List.getElem?_set_self hbl
  have hlay : least src arc (m + 1).toNat b := by
    have hk := (h.exact_ k m hm).1 hm0
    rw [show (m + 1).toNat = m.toNat + 1 by omega]
    refine ⟨.inr ⟨k, hk.1, hkb⟩, fun j hj hl => ?_⟩
    obtain ⟨d, hd, hld⟩ := least_of src arc hl
    obtain ⟨y, hy, hy0⟩ := h.found src arc hm d b (by omega) hld
    rw [hb] at hy
    cases hy
    omega
  have hold : ∀ {j : Nat} {y : Int}, j ∈ k :: todo → (out.set b (m + 1))[j]? = some y → out[j]? = some y := fun hj hy => by
    obtain ⟨z, hz, hz0⟩ := h.todo_ _ hj
    rw [hkeep hz hz0] at hy
    rw [hz, hy]
  have hmb : ∀ j ∈ k :: todo, ∀ y, out[j]? = some y → y ≤ m + 1 := fun j hj y hy => h.near k rfl j hj m y hm hy
  refine ⟨by rw [List.length_set]; exact h.len, fun j y hy => ?_, fun j hj => ?_, fun j hj => ?_, fun a j y hy hy0 ha haj => ?_, ?_, ?_⟩
  · by_cases e : j = b
    · subst e
      rw [hself] at hy
      cases hy
      exact ⟨fun _ => hlay, fun h0 => absurd h0 (by omega)⟩
    · rw [List.getElem?_set_ne (fun e' => e e'.symm)] at hy
      exact h.exact_ j y hy
  · obtain ⟨y, hy, hy0⟩ := h.src_ j hj
    exact ⟨y, hkeep hy hy0, hy0⟩
  · rw [← List.cons_append, List.mem_append] at hj
    rcases hj with hj | hj
    · obtain ⟨y, hy, hy0⟩ := h.todo_ j hj
      exact ⟨y, hkeep hy hy0, hy0⟩
    · rw [List.mem_singleton.1 hj]
      exact ⟨_, hself, by omega⟩
  · have hab : a ≠ b := by
      rintro rfl
      exact ha (by simp)
    rw [List.getElem?_set_ne (fun e => hab e.symm)] at hy
    obtain ⟨z, hz, hz0⟩ := h.done_ a j y hy hy0 (fun hin => ha (by rw [← List.cons_append, List.mem_append]; exact .inl hin)) haj
    exact ⟨z, hkeep hz hz0, hz0⟩
  · rw [← List.cons_append, List.pairwise_append]
    refine ⟨?_, by simp, fun a ha c hc y z hy hz => ?_⟩
    · refine List.Pairwise.imp_of_mem ?_ h.sorted
      intro a c ha hc hq y z hy hz
      exact hq y z (hold ha hy) (hold hc hz)
    · rw [List.mem_singleton.1 hc, hself] at hz
      cases hz
      exact hmb a ha y (hold ha hy)
  · intro a ha c hc y z hy hz
    cases ha
    have hym := hold (by simp) hy
    rw [hm] at hym
    cases hym
    rw [← List.cons_append, List.mem_append] at hc
    rcases hc with hc | hc
    · exact hmb c hc z (hold hc hz)
    · rw [List.mem_singleton.1 hc, hself] at hz
      cases hz
      omega
theorem QueIs.pop {N : Nat} {out : List Int} {k : Nat} {todo : List Nat} (h : QueIs src arc N out (k :: todo)) (hk : ∀ b, arc k b → ∃ y : Int, out[b]? = some y ∧ 0 ≤ y) : QueIs src arc N out todo := by
  obtain ⟨m, hm, hm0⟩ := h.todo_ k (by simp)
  refine ⟨h.len, h.exact_, h.src_, fun j hj => h.todo_ j (List.mem_cons_of_mem _ hj), fun a j y hy hy0 ha haj => ?_, (List.pairwise_cons.1 h.sorted).2, fun a ha b hb x y hx hy => ?_⟩
  · by_cases e : a = k
    · subst e
      exact hk j haj
    · exact h.done_ a j y hy hy0 (fun hin => by
        rcases List.mem_cons.1 hin with hin | hin
        · exact e hin
        · exact ha hin) haj
  · have h1 := h.near k rfl b (List.mem_cons_of_mem _ hb) m y hm hy
    have h2 := (List.pairwise_cons.1 h.sorted).1 a (List.mem_of_mem_head? ha) m x hm hx
    omega
theorem QueIs.start {N : Nat} {out : List Int} {todo : List Nat} (hl : out.length = N) (h : ∀ (k : Nat) (x : Int), out[k]? = some x → (x = 0 ∧ src k) ∨ (x = -1 ∧ ¬ src k)) (hs : ∀ k, src k ↔ k ∈ todo) (hN : ∀ k, src k → k < N) : QueIs src arc N out todo := by
  have hz : ∀ k, src k → out[k]? = some 0 := fun k hk => by
    have ho : out[k]? = some (out[k]'(by rw [hl]; exact hN k hk)) := List.getElem?_eq_getElem _
    rcases h k _ ho with ⟨h1, _⟩ | ⟨_, h1⟩
    · rw [ho, h1]
    · exact absurd hk h1
  have hzt : ∀ k x, k ∈ todo → out[k]? = some x → x = 0 := fun k x hk hx => by
    rw [hz k ((hs k).2 hk)] at hx
    exact (Option.some.inj hx).symm
  refine ⟨hl, fun k x hx => ?_, fun k hk => ⟨0, hz k hk, by omega⟩, fun k hk => ⟨0, hz k ((hs k).2 hk), by omega⟩, fun a k x hx hx0 ha _ => ?_, ?_, fun a ha b hb x y hx hy => ?_⟩
  · rcases h k x hx with ⟨rfl, h1⟩ | ⟨rfl, h1⟩
    · exact ⟨fun _ => ⟨h1, fun m hm => absurd hm (by simp)⟩, fun h0 => absurd h0 (by omega)⟩
    · exact ⟨fun h0 => absurd h0 (by omega), fun _ => rfl⟩
  · rcases h a x hx with ⟨rfl, h1⟩ | ⟨rfl, h1⟩
    · exact absurd ((hs a).1 h1) ha
    · omega
  · rw [List.pairwise_iff_forall_sublist]
    intro a b hab x y hx hy
    have ha := hab.subset (List.mem_cons_self)
    have hb := hab.subset (List.mem_cons_of_mem a (List.mem_cons_self))
    rw [hzt a x ha hx, hzt b y hb hy]
    omega
  · rw [hzt a x (List.mem_of_mem_head? ha) hx, hzt b y hb hy]
    omega
end

end Go.Proofs.YtiaclddgllkgpaaGreatDoor
