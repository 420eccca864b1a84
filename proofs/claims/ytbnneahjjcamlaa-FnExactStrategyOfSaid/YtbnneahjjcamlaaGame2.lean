/-
  Games on graphs: validity, and the program's search for an attractor (a worklist with counts of ways left), as plain mathematics. Conditions: none.
-/
import Derived.Test.YtbnneahjjcamlaaGame
namespace Go.Proofs.Ytbnneahjjcamlaa
set_option linter.unusedVariables false

/-- Strictly increasing numbers from 0 on and below m. -/
def Inc (m : Int) (l : List Int) : Prop := (∀ x, x ∈ l → 0 ≤ x ∧ x < m) ∧ l.Pairwise (· < ·)
instance (m : Int) (l : List Int) : Decidable (Inc m l) := by unfold Inc; infer_instance
theorem Inc.nil_ (m : Int) : Inc m [] := ⟨fun _ h => (List.not_mem_nil h).elim, List.Pairwise.nil⟩
theorem Inc.take {m : Int} {l : List Int} (h : Inc m l) (k : Nat) : Inc m (l.take k) :=
  ⟨fun x hx => h.1 x (List.mem_of_mem_take hx), h.2.sublist (List.take_sublist k l)⟩
theorem Inc.bad {m : Int} {l : List Int} {k : Nat} {x : Int} (hx : l[k]? = some x) (hb : ¬ (0 ≤ x ∧ x < m)) : ¬ Inc m l := fun h => hb (h.1 x (List.mem_of_getElem? hx))
theorem Inc.fall {m : Int} {l : List Int} {k : Nat} {x y : Int} (hx : l[k]? = some x) (hy : l[k + 1]? = some y) (hb : y ≤ x) : ¬ Inc m l := fun h => by
  obtain ⟨i1, e1⟩ := List.getElem?_eq_some_iff.1 hx
  obtain ⟨i2, e2⟩ := List.getElem?_eq_some_iff.1 hy
  have := List.pairwise_iff_getElem.1 h.2 k (k + 1) i1 i2 (by omega)
  omega
theorem Inc.one {m : Int} {l : List Int} {x : Int} (hx : l[0]? = some x) (hb : 0 ≤ x ∧ x < m) : Inc m (l.take 1) := by
  rw [List.take_add_one, hx]
  exact ⟨fun y hy => by simp at hy; subst hy; exact hb, by simp⟩
theorem Inc.step {m : Int} {l : List Int} {k : Nat} {x y : Int} (h : Inc m (l.take (k + 1))) (hx : l[k]? = some x) (hy : l[k + 1]? = some y) (hb : 0 ≤ y ∧ y < m) (hlt : x < y) : Inc m (l.take (k + 1 + 1)) := by
  rw [List.take_add_one, hy]
  refine ⟨fun z hz => ?_, List.pairwise_append.2 ⟨h.2, by simp, fun a ha b hb' => ?_⟩⟩
  · rcases List.mem_append.1 hz with hz | hz
    · exact h.1 z hz
    · simp at hz; subst hz; exact hb
  · simp at hb'
    subst hb'
    have hle : a ≤ x := by
      have hp := h.2
      rw [List.take_add_one, hx] at hp ha
      rcases List.mem_append.1 ha with ha | ha
      · exact Int.le_of_lt ((List.pairwise_append.1 hp).2.2 a ha x (by simp))
      · simp at ha; omega
    show a < b
    omega
theorem Inc.nodup {m : Int} {l : List Int} (h : Inc m l) : l.Nodup := h.2.imp fun h => by omega
theorem Inc.at_ {m : Int} {l : List Int} {k : Nat} {x : Int} (h : Inc m l) (hx : l[k]? = some x) : 0 ≤ x ∧ x < m := h.1 x (List.mem_of_getElem? hx)

/-- One vertex among many is valid. -/
def VxOk (m : Int) (x : Vx) : Prop := (0 ≤ x.1 ∧ x.1 ≤ 1) ∧ (0 ≤ x.2.1 ∧ x.2.1 ≤ 9) ∧ Inc m x.2.2
instance (m : Int) (x : Vx) : Decidable (VxOk m x) := by unfold VxOk; infer_instance
/-- A game is valid. -/
def GameOk (g : DV) : Prop := (1 ≤ g.length ∧ g.length ≤ 120) ∧ ∀ x, x ∈ g → VxOk g.length x
instance (g : DV) : Decidable (GameOk g) := by unfold GameOk; infer_instance

section
variable {g : DV}
theorem GameOk.at_ (h : GameOk g) {v : Nat} {o p : Int} {l : List Int} (hx : g[v]? = some (o, p, l)) : (0 ≤ o ∧ o ≤ 1) ∧ (0 ≤ p ∧ p ≤ 9) ∧ Inc g.length l := h.2 _ (List.mem_of_getElem? hx)
theorem gx (g : DV) {v : Nat} (hv : v < g.length) : ∃ o p l, g[v]? = some (o, p, l) ∧ gOwn g v = o ∧ gPri g v = p ∧ gNxt g v = l.map Int.toNat := by
  obtain ⟨⟨o, p, l⟩, hx⟩ : ∃ x, g[v]? = some x := ⟨_, List.getElem?_eq_getElem hv⟩
  exact ⟨o, p, l, hx, gOwn_at hx, gPri_at hx, gNxt_at hx⟩
theorem gNxt_big {v : Nat} (hv : g.length ≤ v) : gNxt g v = [] := by unfold gNxt; rw [List.getElem?_eq_none hv]; rfl
theorem GameOk.owned (h : GameOk g) : Owned g := fun v hv => by
  obtain ⟨o, p, l, hx, e, _⟩ := gx g hv
  have := (h.at_ hx).1
  omega
theorem GameOk.pri (h : GameOk g) {v : Nat} (hv : v < g.length) : 0 ≤ gPri g v ∧ gPri g v ≤ 9 := by
  obtain ⟨o, p, l, hx, _, e, _⟩ := gx g hv
  have := (h.at_ hx).2.1
  omega
theorem inc_nat {m : Int} {l : List Int} (h : Inc m l) : (l.map Int.toNat).Nodup ∧ (∀ u, u ∈ l.map Int.toNat ↔ (u : Int) ∈ l) ∧ ∀ u, u ∈ l.map Int.toNat → (u : Int) < m := by
  have h2 : ∀ u, u ∈ l.map Int.toNat ↔ (u : Int) ∈ l := fun u => by
    rw [List.mem_map]
    constructor
    · rintro ⟨x, hx, rfl⟩
      have := (h.1 x hx).1
      rw [Int.toNat_of_nonneg this]
      exact hx
    · intro hu
      exact ⟨_, hu, by omega⟩
  refine ⟨?_, h2, fun u hu => (h.1 _ ((h2 u).1 hu)).2⟩
  unfold List.Nodup
  rw [List.pairwise_map]
  refine List.Pairwise.imp_of_mem ?_ h.2
  intro a b ha hb hab
  have := (h.1 a ha).1
  omega
theorem GameOk.nxt (h : GameOk g) (v : Nat) : (gNxt g v).Nodup ∧ ∀ u, u ∈ gNxt g v → u < g.length := by
  by_cases hv : v < g.length
  · obtain ⟨o, p, l, hx, _, _, e⟩ := gx g hv
    have := inc_nat (h.at_ hx).2.2
    rw [e]
    exact ⟨this.1, fun u hu => by have := this.2.2 u hu; omega⟩
  · rw [gNxt_big (by omega)]
    exact ⟨List.Pairwise.nil, fun _ h => (List.not_mem_nil h).elim⟩
theorem gNxt_src {v u : Nat} (h : u ∈ gNxt g v) : v < g.length := by
  rcases Nat.lt_or_ge v g.length with h1 | h1
  · exact h1
  · rw [gNxt_big h1] at h; cases h
end

theorem filter_one {p q : Nat → Bool} {k : Nat} : ∀ {l : List Nat}, l.Nodup → k ∈ l → p k = true → q k = false → (∀ u, u ≠ k → p u = q u) → (l.filter p).length = (l.filter q).length + 1 := by
  intro l
  induction l with
  | nil => intro _ h; cases h
  | cons x l ih =>
    intro hn hk hp hq he
    rw [List.nodup_cons] at hn
    by_cases e : x = k
    · subst e
      have : l.filter p = l.filter q := List.filter_congr fun u hu => he u fun e => hn.1 (e ▸ hu)
      simp [List.filter_cons, hp, hq, this]
    · have hk' : k ∈ l := by
        rcases List.mem_cons.1 hk with h | h
        · exact absurd h.symm e
        · exact h
      have := ih hn.2 hk' hp hq he
      simp only [List.filter_cons, he x e]
      split <;> simp [this]
/-- Different numbers below n are at most n. -/
theorem nodup_le : ∀ (n : Nat) (l : List Nat), l.Nodup → (∀ x, x ∈ l → x < n) → l.length ≤ n := by
  intro n
  induction n with
  | zero =>
    intro l _ h
    cases l with
    | nil => exact Nat.le_refl _
    | cons x l => exact absurd (h x (by simp)) (by omega)
  | succ n ih =>
    intro l hn h
    have h1 := ih (l.erase n) (hn.erase n) fun x hx => by
      have h2 := h x (List.mem_of_mem_erase hx)
      have : x ≠ n := by
        rintro rfl
        exact (List.Nodup.not_mem_erase hn) hx
      omega
    have h2 := List.length_erase (a := n) (l := l)
    split at h2 <;> omega
theorem filter_none {p : Nat → Bool} {l : List Nat} (h : ∀ u, u ∈ l → p u = false) : l.filter p = [] := List.filter_eq_nil_iff.2 fun u hu => by rw [h u hu]; simp

/-- The ways from v to vertices alive. -/
def exitsF (g : DV) (alive : List Bool) (v : Nat) : Nat := ((gNxt g v).filter (inS alive)).length
/-- .. of those not yet taken. -/
def cntL (g : DV) (alive P : List Bool) (v : Nat) : Nat := ((gNxt g v).filter fun u => inS alive u && !inS P u).length

/-- What the count of a vertex says. -/
def CondL (g : DV) (alive : List Bool) (player : Int) (out P : List Bool) (f : Int → Option Int) (b : Nat) : Prop :=
  inS alive b = true → inS out b = false →
    (gOwn g b = player → ∀ u, u ∈ gNxt g b → inS alive u = true → inS P u = false) ∧
    (gOwn g b ≠ player → (f b = none → ∀ u, u ∈ gNxt g b → inS alive u = true → inS P u = false) ∧ ∀ c, f b = some c → c = (cntL g alive P b : Int) ∧ 0 < c)

/-- The state of the search: out is what has been found, P what has been taken from todo, rest the vertices ahead of k that have not been looked at yet. -/
structure AttrI (g : DV) (alive : List Bool) (player : Int) (set out P : List Bool) (todo : List Int) (f : Int → Option Int) (k : Nat) (rest : List Int) : Prop where
  bet : Between g alive player set out
  plen : P.length = g.length
  sub : ∀ v, inS P v = true → inS out v = true
  nodup : todo.Nodup
  rnd : rest.Nodup
  mem : ∀ t : Int, t ∈ todo ↔ ∃ v : Nat, t = v ∧ inS out v = true ∧ inS P v = false
  cond : ∀ b : Nat, CondL g alive player out (if (b : Int) ∈ rest then P.set k false else P) f b

/-- The indices at which a set holds. -/
def idxOf (s : List Bool) : List Int := ((List.range s.length).filter (inS s)).map Int.ofNat
theorem mem_idx {s : List Bool} {t : Int} : t ∈ idxOf s ↔ ∃ v : Nat, t = v ∧ inS s v = true := by
  unfold idxOf
  rw [List.mem_map]
  constructor
  · rintro ⟨v, hv, rfl⟩; exact ⟨v, rfl, (List.mem_filter.1 hv).2⟩
  · rintro ⟨v, rfl, hv⟩; exact ⟨v, List.mem_filter.2 ⟨List.mem_range.2 (inS_lt hv), hv⟩, rfl⟩
theorem idx_nodup (s : List Bool) : (idxOf s).Nodup := by
  unfold idxOf List.Nodup
  rw [List.pairwise_map]
  exact (List.Pairwise.imp (fun h e => h (Int.ofNat.inj e)) (List.nodup_range.filter _))
theorem idx_len (s : List Bool) : (idxOf s).length ≤ s.length := by
  unfold idxOf
  rw [List.length_map]
  exact Nat.le_trans (List.length_filter_le _ _) (by simp)

section
variable {g : DV} {alive set out P : List Bool} {player : Int} {todo rest : List Int} {f : Int → Option Int} {k : Nat}

theorem AttrI.start (hl : set.length = g.length) (k : Nat) : AttrI g alive player set set (setOf g.length fun _ => false) (idxOf set) (fun _ => none) k [] := by
  have hP : ∀ v, inS (setOf g.length fun _ => false) v = false := fun v => by rw [inS_setOf]; simp
  refine ⟨.start hl, setOf_len _ _, fun v h => (by rw [hP] at h; cases h), idx_nodup _, List.nodup_nil, fun t => ?_, fun b _ _ => ⟨fun _ u _ _ => ?_, fun _ => ⟨fun _ u _ _ => ?_, fun c h => by cases h⟩⟩⟩
  · rw [mem_idx]
    constructor
    · rintro ⟨v, h1, h2⟩; exact ⟨v, h1, h2, hP v⟩
    · rintro ⟨v, h1, h2, _⟩; exact ⟨v, h1, h2⟩
  · simp [hP]
  · simp [hP]

/-- How many are waiting. -/
theorem AttrI.todo_le (h : AttrI g alive player set out P todo f k rest) : todo.length ≤ g.length := by
  have : ∀ (t : List Int) (n : Nat), t.Nodup → (∀ x, x ∈ t → 0 ≤ x ∧ x < n) → t.length ≤ n := by
    intro t n ht hx
    have h1 : (t.map Int.toNat).Nodup := by
      unfold List.Nodup
      rw [List.pairwise_map]
      refine List.Pairwise.imp_of_mem ?_ ht
      intro a b ha hb hab e
      have := (hx a ha).1
      have := (hx b hb).1
      omega
    have h2 := nodup_le n _ h1 fun y hy => by
      obtain ⟨x, hx', rfl⟩ := List.mem_map.1 hy
      have := hx x hx'
      omega
    simpa using h2
  refine this todo g.length h.nodup fun x hx => ?_
  obtain ⟨v, rfl, h1, _⟩ := (h.mem x).1 hx
  have := inS_lt h1
  rw [h.bet.len] at this
  omega

/-- The vertex taken from todo. -/
theorem AttrI.head {t : Int} (h : AttrI g alive player set out P (t :: todo) f k []) : ∃ v : Nat, t = v ∧ v < g.length ∧ inS out v = true ∧ inS P v = false := by
  obtain ⟨v, h1, h2, h3⟩ := (h.mem t).1 (by simp)
  exact ⟨v, h1, by rw [← h.bet.len]; exact inS_lt h2, h2, h3⟩

theorem set_back {s : List Bool} {k : Nat} (h : inS s k = false) (hk : k < s.length) : (s.set k true).set k false = s := by
  refine inS_ext (by simp) fun v hv => ?_
  rw [inS_set (by simpa using hk), inS_set hk]
  split
  · rename_i e; subst e; exact h.symm
  · rfl

theorem AttrI.pop {v : Nat} (h : AttrI g alive player set out P ((v : Int) :: todo) f k []) {row : List Int} (hnd : row.Nodup) (hrow : ∀ b : Nat, (b : Int) ∈ row ↔ v ∈ gNxt g b) :
    AttrI g alive player set out (P.set v true) todo f v row := by
  obtain ⟨v', e, hv, h2, h3⟩ := h.head
  have e : v' = v := by omega
  subst e
  have hvP : v' < P.length := by rw [h.plen]; exact hv
  have hn := List.nodup_cons.1 h.nodup
  refine ⟨h.bet, by rw [List.length_set]; exact h.plen, fun u hu => ?_, hn.2, hnd, fun t => ?_, fun b => ?_⟩
  · rw [inS_set hvP] at hu
    split at hu
    · rename_i e; subst e; exact h2
    · exact h.sub u hu
  · have hm := h.mem t
    constructor
    · intro ht
      obtain ⟨u, rfl, h5, h6⟩ := hm.1 (List.mem_cons_of_mem _ ht)
      refine ⟨u, rfl, h5, ?_⟩
      rw [inS_set hvP, if_neg]
      · exact h6
      · rintro rfl; exact hn.1 ht
    · rintro ⟨u, rfl, h5, h6⟩
      rw [inS_set hvP] at h6
      split at h6
      · cases h6
      · rename_i hne
        rcases List.mem_cons.1 (hm.2 ⟨u, rfl, h5, h6⟩) with h7 | h7
        · omega
        · exact h7
  · have hc := h.cond b
    simp only [List.not_mem_nil, if_false] at hc
    split
    · rw [set_back h3 hvP]; exact hc
    · rename_i hb
      have hnb : v' ∉ gNxt g b := fun hx => hb ((hrow b).2 hx)
      intro h5 h6
      obtain ⟨c1, c2⟩ := hc h5 h6
      have he : ∀ u, u ∈ gNxt g b → inS (P.set v' true) u = inS P u := fun u hu => by
        rw [inS_set hvP, if_neg]
        rintro rfl; exact hnb hu
      have hcnt : cntL g alive (P.set v' true) b = cntL g alive P b := by
        unfold cntL
        congr 1
        exact List.filter_congr fun u hu => by rw [he u hu]
      refine ⟨fun ho u hu ha => by rw [he u hu]; exact c1 ho u hu ha, fun ho => ⟨fun hf u hu ha => by rw [he u hu]; exact (c2 ho).1 hf u hu ha, fun c hcf => by rw [hcnt]; exact (c2 ho).2 c hcf⟩⟩

theorem mem_later {b x : Nat} {rest : List Int} (e : x ≠ b) : ((x : Int) ∈ ((b : Int) :: rest)) ↔ (x : Int) ∈ rest := by
  rw [List.mem_cons]
  exact ⟨fun h => h.elim (fun h => by omega) id, .inr⟩

/-- A vertex ahead of k is passed over. -/
theorem AttrI.skip {b : Nat} (h : AttrI g alive player set out P todo f k ((b : Int) :: rest)) (hs : inS alive b = false ∨ inS out b = true) : AttrI g alive player set out P todo f k rest := by
  refine ⟨h.bet, h.plen, h.sub, h.nodup, (List.nodup_cons.1 h.rnd).2, h.mem, fun x => ?_⟩
  by_cases e : x = b
  · subst e
    intro h1 h2
    rcases hs with hs | hs
    · rw [hs] at h1; cases h1
    · rw [hs] at h2; cases h2
  · have := h.cond x
    have e2 : ((x : Int) ∈ ((b : Int) :: rest)) ↔ (x : Int) ∈ rest := mem_later e
    simp only [e2] at this
    exact this

/-- A vertex is found. -/
theorem AttrI.add {b : Nat} {f' : Int → Option Int} (h : AttrI g alive player set out P todo f k ((b : Int) :: rest)) (hb : inS out b = false) (hbl : b < g.length) (a : Attr g alive player set b) (hf : ∀ x : Nat, x ≠ b → f' x = f x) :
    AttrI g alive player set (out.set b true) P (todo ++ [(b : Int)]) f' k rest := by
  have hbo : b < out.length := by rw [h.bet.len]; exact hbl
  have hPb : inS P b = false := by
    cases e : inS P b with
    | false => rfl
    | true => rw [h.sub b e] at hb; cases hb
  have hno : (b : Int) ∉ todo := fun hm => by
    obtain ⟨v, e, h1, _⟩ := (h.mem _).1 hm
    have : v = b := by omega
    subst this
    rw [h1] at hb; cases hb
  refine ⟨h.bet.add hbl a, h.plen, fun v hv => ?_, ?_, (List.nodup_cons.1 h.rnd).2, fun t => ?_, fun x => ?_⟩
  · rw [inS_set hbo]
    split
    · rfl
    · exact h.sub v hv
  · exact List.nodup_append.2 ⟨h.nodup, by simp, fun x hx y hy => by simp at hy; subst hy; rintro rfl; exact hno hx⟩
  · rw [List.mem_append, h.mem]
    constructor
    · rintro (⟨v, rfl, h1, h2⟩ | ht)
      · refine ⟨v, rfl, ?_, h2⟩
        rw [inS_set hbo]
        split
        · rfl
        · exact h1
      · simp at ht
        exact ⟨b, ht, by rw [inS_set hbo, if_pos rfl], hPb⟩
    · rintro ⟨v, rfl, h1, h2⟩
      rw [inS_set hbo] at h1
      split at h1
      · rename_i e; subst e; exact .inr (by simp)
      · exact .inl ⟨v, rfl, h1, h2⟩
  · by_cases e : x = b
    · subst e
      intro _ h2
      rw [inS_set hbo, if_pos rfl] at h2
      cases h2
    · have hc := h.cond x
      have e2 : ((x : Int) ∈ ((b : Int) :: rest)) ↔ (x : Int) ∈ rest := mem_later e
      simp only [e2] at hc
      intro h1 h2
      rw [inS_set hbo, if_neg (Ne.symm e)] at h2
      rw [hf x e]
      exact hc h1 h2

/-- .. because it may move to k. -/
theorem AttrI.attr_own {b : Nat} (h : AttrI g alive player set out P todo f k ((b : Int) :: rest)) (hsub : ∀ v, inS set v = true → inS alive v = true) (hk : inS P k = true) (hkb : k ∈ gNxt g b) (ha : inS alive b = true) (ho : gOwn g b = player) : Attr g alive player set b := by
  have hk' := h.bet.to_ k (h.sub k hk)
  exact .own ha ho hkb (hk'.sub hsub) hk'

/-- The count of a vertex of the other player goes down by one. -/
theorem AttrI.count {b : Nat} (h : AttrI g alive player set out P todo f k ((b : Int) :: rest)) (hn : (gNxt g b).Nodup) (hsc : ∀ u, u ∈ gNxt g b → u < g.length) (hsub : ∀ v, inS set v = true → inS alive v = true) (hk : inS P k = true) (hkb : k ∈ gNxt g b) (ha : inS alive b = true) (hb : inS out b = false) (ho : gOwn g b ≠ player) :
    ((f b).getD (exitsF g alive b : Int)) - 1 = (cntL g alive P b : Int) ∧ (∀ c, f b = some c → 0 < c ∧ c ≤ g.length) := by
  have hc := h.cond b
  simp only [List.mem_cons, true_or, if_true] at hc
  have hkP : k < P.length := inS_lt hk
  have hka := (h.bet.to_ k (h.sub k hk)).sub hsub
  obtain ⟨_, c2⟩ := hc ha hb
  obtain ⟨c3, c4⟩ := c2 ho
  have hcnt : cntL g alive (P.set k false) b = cntL g alive P b + 1 := by
    unfold cntL
    refine filter_one hn hkb ?_ ?_ fun u hu => ?_
    · rw [inS_set hkP, if_pos rfl, hka]; rfl
    · rw [hk]; simp
    · rw [inS_set hkP, if_neg (Ne.symm hu)]
  cases hf : f b with
  | none =>
    refine ⟨?_, fun c e => by cases e⟩
    have h1 := c3 hf
    have : exitsF g alive b = cntL g alive (P.set k false) b := by
      unfold exitsF cntL
      congr 1
      exact List.filter_congr fun u hu => by
        cases e : inS alive u with
        | false => rfl
        | true => rw [h1 u hu e]; rfl
    simp only [Option.getD_none]
    omega
  | some c =>
    have h1 := c4 c hf
    refine ⟨by simp only [Option.getD_some]; omega, fun c' e => ?_⟩
    cases e
    refine ⟨h1.2, ?_⟩
    have h2 : cntL g alive (P.set k false) b ≤ g.length := by
      have h3 := nodup_le g.length _ (hn.filter fun u => inS alive u && !inS (P.set k false) u) fun y hy => hsc y (List.mem_filter.1 hy).1
      simpa [cntL] using h3
    omega

/-- It has ways left. -/
theorem AttrI.lower {b : Nat} {c : Int} (h : AttrI g alive player set out P todo f k ((b : Int) :: rest)) (ho : gOwn g b ≠ player) (hc : c = (cntL g alive P b : Int)) (hpos : 0 < c) :
    AttrI g alive player set out P todo (fun x => if x = (b : Int) then some c else f x) k rest := by
  refine ⟨h.bet, h.plen, h.sub, h.nodup, (List.nodup_cons.1 h.rnd).2, h.mem, fun x => ?_⟩
  by_cases e : x = b
  · subst e
    intro h1 h2
    refine ⟨fun h3 => absurd h3 ho, fun _ => ⟨fun h3 => by simp at h3, fun c' h3 => ?_⟩⟩
    simp at h3
    subst h3
    refine ⟨?_, hpos⟩
    rw [hc, if_neg (List.nodup_cons.1 h.rnd).1]
  · have hc := h.cond x
    have e2 : ((x : Int) ∈ ((b : Int) :: rest)) ↔ (x : Int) ∈ rest := mem_later e
    simp only [e2] at hc
    have e3 : (if (x : Int) = (b : Int) then some c else f x) = f x := if_neg (by omega)
    intro h1 h2
    obtain ⟨c1, c2⟩ := hc h1 h2
    refine ⟨c1, fun h3 => ?_⟩
    simp only [e3]
    exact c2 h3

/-- It has none left. -/
theorem AttrI.attr_other {b : Nat} (h : AttrI g alive player set out P todo f k ((b : Int) :: rest)) (hsub : ∀ v, inS set v = true → inS alive v = true) (hk : inS P k = true) (hkb : k ∈ gNxt g b) (ha : inS alive b = true) (ho : gOwn g b ≠ player) (hc : cntL g alive P b = 0) : Attr g alive player set b := by
  have hk' := h.bet.to_ k (h.sub k hk)
  refine .other ha ho hkb (hk'.sub hsub) fun x hx hxa => h.bet.to_ x (h.sub x ?_)
  unfold cntL at hc
  have h1 := List.filter_eq_nil_iff.1 (List.eq_nil_of_length_eq_zero hc) x hx
  simpa [hxa] using h1

/-- Nothing is left to do. -/
theorem AttrI.done (h : AttrI g alive player set out P [] f k []) (hal : alive.length = g.length) : out = attrF g alive player set := by
  have hout : ∀ v, inS out v = inS P v := fun v => by
    cases e : inS out v with
    | false =>
      cases e2 : inS P v with
      | false => rfl
      | true => rw [h.sub v e2] at e; cases e
    | true =>
      cases e2 : inS P v with
      | true => rfl
      | false => exact absurd ((h.mem v).2 ⟨v, rfl, e, e2⟩) (by simp)
  refine h.bet.done (fun v hv h1 h2 => ?_) hal
  have hc := h.cond v
  simp only [List.not_mem_nil, if_false] at hc
  obtain ⟨c1, c2⟩ := hc h1 h2
  refine ⟨fun ho u hu ha => by rw [hout]; exact c1 ho u hu ha, fun ho ⟨u, hu, ha⟩ => ?_⟩
  obtain ⟨c3, c4⟩ := c2 ho
  cases hf : f v with
  | none => exact ⟨u, hu, ha, by rw [hout]; exact c3 hf u hu ha⟩
  | some c =>
    obtain ⟨c5, c6⟩ := c4 c hf
    have hpos : 0 < cntL g alive P v := by omega
    unfold cntL at hpos
    obtain ⟨x, hx⟩ := List.exists_mem_of_length_pos hpos
    obtain ⟨hx1, hx2⟩ := List.mem_filter.1 hx
    simp at hx2
    exact ⟨x, hx1, hx2.1, by rw [hout]; exact hx2.2⟩
end

end Go.Proofs.Ytbnneahjjcamlaa
