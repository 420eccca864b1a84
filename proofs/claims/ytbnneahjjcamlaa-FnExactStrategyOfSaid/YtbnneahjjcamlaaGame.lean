/-
  Games on graphs: sets of vertices, attractors as an inductive predicate, and what two runs of the search for them keep. Conditions: none; plain lists.
-/
import Derived.Test.YtbnneahjjcamlaaWords
namespace Go.Proofs.Ytbnneahjjcamlaa
set_option linter.unusedVariables false

/-- A vertex: owner and priority, and the vertices behind it. -/
abbrev Vx := Int × Int × List Int
abbrev DV := List Vx

/-- A set of vertices as a list of answers. -/
def inS (s : List Bool) (v : Nat) : Bool := s[v]?.getD false
theorem inS_some {s : List Bool} {v : Nat} {b : Bool} (h : s[v]? = some b) : inS s v = b := by unfold inS; rw [h]; rfl
theorem inS_lt {s : List Bool} {v : Nat} (h : inS s v = true) : v < s.length := by
  unfold inS at h
  cases e : s[v]? with
  | none => rw [e] at h; cases h
  | some b => exact (List.getElem?_eq_some_iff.1 e).1
theorem inS_big {s : List Bool} {v : Nat} (h : s.length ≤ v) : inS s v = false := by unfold inS; rw [List.getElem?_eq_none h]; rfl
theorem inS_get {s : List Bool} {v : Nat} (h : v < s.length) : s[v]? = some (inS s v) := by unfold inS; rw [List.getElem?_eq_getElem h]; rfl
theorem inS_set {s : List Bool} {v u : Nat} {b : Bool} (h : v < s.length) : inS (s.set v b) u = if v = u then b else inS s u := by
  unfold inS
  by_cases e : v = u
  · subst e; rw [List.getElem?_set_self h]; simp
  · rw [List.getElem?_set_ne e]; simp [e]
theorem inS_ext {s t : List Bool} (hl : s.length = t.length) (h : ∀ v, v < s.length → inS s v = inS t v) : s = t := by
  apply List.ext_getElem?
  intro i
  by_cases hi : i < s.length
  · rw [inS_get hi, inS_get (by omega), h i hi]
  · rw [List.getElem?_eq_none (by omega), List.getElem?_eq_none (by omega)]
/-- The set of those below n that are as asked. -/
def setOf (n : Nat) (p : Nat → Bool) : List Bool := (List.range n).map p
theorem setOf_len (n : Nat) (p : Nat → Bool) : (setOf n p).length = n := by simp [setOf]
theorem setOf_get {n : Nat} {p : Nat → Bool} {v : Nat} (h : v < n) : (setOf n p)[v]? = some (p v) := by simp [setOf, h]
theorem inS_setOf {n : Nat} {p : Nat → Bool} {v : Nat} : inS (setOf n p) v = (decide (v < n) && p v) := by
  by_cases h : v < n
  · rw [inS_some (setOf_get h)]; simp [h]
  · rw [inS_big (by rw [setOf_len]; omega)]; simp [h]
theorem setOf_inS {s : List Bool} {n : Nat} (h : s.length = n) : setOf n (inS s) = s := by
  subst h
  exact inS_ext (setOf_len _ _) fun v hv => by rw [setOf_len] at hv; rw [inS_setOf]; simp [hv]
theorem setOf_congr {n : Nat} {p q : Nat → Bool} (h : ∀ v, v < n → p v = q v) : setOf n p = setOf n q := by
  unfold setOf
  apply List.map_congr_left
  intro v hv
  exact h v (List.mem_range.1 hv)

def gOwn (g : DV) (v : Nat) : Int := (g[v]?.map fun x => x.1).getD 0
def gPri (g : DV) (v : Nat) : Int := (g[v]?.map fun x => x.2.1).getD 0
def gNxt (g : DV) (v : Nat) : List Nat := (g[v]?.map fun x => x.2.2.map Int.toNat).getD []
theorem gOwn_at {g : DV} {v : Nat} {o p : Int} {l : List Int} (h : g[v]? = some (o, p, l)) : gOwn g v = o := by unfold gOwn; rw [h]; rfl
theorem gPri_at {g : DV} {v : Nat} {o p : Int} {l : List Int} (h : g[v]? = some (o, p, l)) : gPri g v = p := by unfold gPri; rw [h]; rfl
theorem gNxt_at {g : DV} {v : Nat} {o p : Int} {l : List Int} (h : g[v]? = some (o, p, l)) : gNxt g v = l.map Int.toNat := by unfold gNxt; rw [h]; rfl

/-- From v the player can force a way into the set, among vertices that are alive. -/
inductive Attr (g : DV) (alive : List Bool) (player : Int) (set : List Bool) : Nat → Prop
  | base {v : Nat} : inS set v = true → Attr g alive player set v
  | own {v u : Nat} : inS alive v = true → gOwn g v = player → u ∈ gNxt g v → inS alive u = true → Attr g alive player set u → Attr g alive player set v
  | other {v u : Nat} : inS alive v = true → gOwn g v ≠ player → u ∈ gNxt g v → inS alive u = true → (∀ x, x ∈ gNxt g v → inS alive x = true → Attr g alive player set x) → Attr g alive player set v

open Classical in
/-- The attractor. -/
noncomputable def attrF (g : DV) (alive : List Bool) (player : Int) (set : List Bool) : List Bool := setOf g.length fun v => decide (Attr g alive player set v)
theorem attrF_len (g : DV) (alive : List Bool) (player : Int) (set : List Bool) : (attrF g alive player set).length = g.length := setOf_len _ _

section
variable {g : DV} {alive set out : List Bool} {player : Int}

theorem Attr.sub (h : ∀ v, inS set v = true → inS alive v = true) {v : Nat} (a : Attr g alive player set v) : inS alive v = true := by
  cases a with
  | base h1 => exact h v h1
  | own h1 => exact h1
  | other h1 => exact h1

theorem inS_attrF (hl : alive.length = g.length) (h : ∀ v, inS set v = true → inS alive v = true) {v : Nat} : inS (attrF g alive player set) v = true ↔ Attr g alive player set v := by
  unfold attrF
  rw [inS_setOf]
  constructor
  · intro h; simp at h; exact h.2
  · intro a
    have := inS_lt (a.sub h)
    simp [a]
    omega

/-- Nothing can be added to out. -/
def Closed (g : DV) (alive : List Bool) (player : Int) (out : List Bool) (v : Nat) : Prop :=
  inS alive v = true → inS out v = false →
    (gOwn g v = player → ∀ u, u ∈ gNxt g v → inS alive u = true → inS out u = false) ∧
    (gOwn g v ≠ player → (∃ u, u ∈ gNxt g v ∧ inS alive u = true) → ∃ u, u ∈ gNxt g v ∧ inS alive u = true ∧ inS out u = false)

theorem Attr.in_closed (hs : ∀ v, inS set v = true → inS out v = true) (hc : ∀ v, Closed g alive player out v) {v : Nat} (a : Attr g alive player set v) : inS out v = true := by
  induction a with
  | base h => exact hs _ h
  | @own v u h1 h2 h3 h4 _ ih =>
    cases e : inS out v with
    | true => rfl
    | false =>
      have := (hc v h1 e).1 h2 u h3 h4
      rw [ih] at this; cases this
  | @other v u h1 h2 h3 h4 _ ih =>
    cases e : inS out v with
    | true => rfl
    | false =>
      obtain ⟨x, x1, x2, x3⟩ := (hc v h1 e).2 h2 ⟨u, h3, h4⟩
      rw [ih x x1 x2] at x3; cases x3

/-- A set between the one asked for and the attractor. -/
structure Between (g : DV) (alive : List Bool) (player : Int) (set out : List Bool) : Prop where
  len : out.length = g.length
  from_ : ∀ v, inS set v = true → inS out v = true
  to_ : ∀ v, inS out v = true → Attr g alive player set v

theorem Between.start (hl : set.length = g.length) : Between g alive player set set := ⟨hl, fun _ h => h, fun _ h => .base h⟩
theorem Between.add (h : Between g alive player set out) {v : Nat} (hv : v < g.length) (a : Attr g alive player set v) : Between g alive player set (out.set v true) := by
  have hl := h.len
  refine ⟨by rw [List.length_set]; exact hl, fun u hu => ?_, fun u hu => ?_⟩
  · rw [inS_set (by omega)]
    split
    · rfl
    · exact h.from_ u hu
  · rw [inS_set (by omega)] at hu
    split at hu
    · rename_i e; subst e; exact a
    · exact h.to_ u hu
theorem Between.done (h : Between g alive player set out) (hc : ∀ v, v < g.length → Closed g alive player out v) (hal : alive.length = g.length) : out = attrF g alive player set := by
  have hc' : ∀ v, Closed g alive player out v := fun v => by
    by_cases hv : v < g.length
    · exact hc v hv
    · intro h1; have := inS_lt h1; omega
  refine inS_ext (by rw [h.len, attrF_len]) fun v hv => ?_
  have hv' : v < g.length := by rw [← h.len]; exact hv
  unfold attrF
  rw [inS_setOf]
  by_cases a : Attr g alive player set v
  · rw [a.in_closed h.from_ hc']
    simp [a, hv']
  · simp only [a, decide_false, Bool.and_false]
    cases e : inS out v with
    | false => rfl
    | true => exact absurd (h.to_ v e) a
end

/-- How many are in a set. -/
def numS (s : List Bool) : Nat := (s.filter id).length
theorem numS_le (s : List Bool) : numS s ≤ s.length := List.length_filter_le _ _
theorem numS_set {s : List Bool} : ∀ {v : Nat}, v < s.length → inS s v = false → numS (s.set v true) = numS s + 1 := by
  induction s with
  | nil => intro v h; simp at h
  | cons b s ih =>
    intro v hv h
    cases v with
    | zero =>
      have hb : b = false := by simpa [inS] using h
      subst hb
      simp [numS]
    | succ v =>
      have h1 := ih (v := v) (by simpa using hv) (by simpa [inS] using h)
      unfold numS at h1 ⊢
      cases b <;> simp [List.filter_cons] at h1 ⊢ <;> omega

/-- A set strictly within another one is smaller. -/
theorem numS_lt {s t : List Bool} (hl : s.length = t.length) (h : ∀ v, inS s v = true → inS t v = true) {v : Nat} (hv : inS t v = true) (hv' : inS s v = false) : numS s < numS t := by
  have mono : ∀ (s t : List Bool), s.length = t.length → (∀ v, inS s v = true → inS t v = true) → numS s ≤ numS t := by
    intro s
    induction s with
    | nil => intro t _ _; simp [numS]
    | cons b s ih =>
      intro t hl h
      cases t with
      | nil => simp at hl
      | cons c t =>
        have h0 := h 0
        have h1 := ih t (by simpa using hl) fun v hv => by have := h (v + 1); simpa [inS] using this (by simpa [inS] using hv)
        unfold numS at h1 ⊢
        have h0' : b = true → c = true := by simpa [inS] using h0
        cases b <;> cases c <;> simp [List.filter_cons] at h0' ⊢ <;> omega
  have h2 := mono (s.set v true) t (by rw [List.length_set]; exact hl) fun u hu => by
    rw [inS_set (by rw [hl]; exact inS_lt hv)] at hu
    split at hu
    · rename_i e; subst e; exact hv
    · exact h u hu
  rw [numS_set (by rw [hl]; exact inS_lt hv) hv'] at h2
  omega

/-- One round of the reference's search. -/
def someL (alive out : List Bool) (l : List Nat) : Bool := l.any fun u => inS alive u && inS out u
def allL (alive out : List Bool) (l : List Nat) : Bool := l.all fun u => !inS alive u || inS out u
def anyL (alive : List Bool) (l : List Nat) : Bool := l.any fun u => inS alive u

section
variable {g : DV} {alive set out : List Bool} {player : Int}
theorem attr_of_own {v : Nat} (h : Between g alive player set out) (h1 : inS alive v = true) (h2 : gOwn g v = player) (h3 : someL alive out (gNxt g v) = true) : Attr g alive player set v := by
  obtain ⟨u, hu, hb⟩ := List.any_eq_true.1 h3
  simp at hb
  exact .own h1 h2 hu hb.1 (h.to_ u hb.2)
theorem attr_of_other {v : Nat} (h : Between g alive player set out) (h1 : inS alive v = true) (h2 : gOwn g v ≠ player) (h3 : anyL alive (gNxt g v) = true) (h4 : allL alive out (gNxt g v) = true) : Attr g alive player set v := by
  obtain ⟨u, hu, hb⟩ := List.any_eq_true.1 h3
  refine .other h1 h2 hu hb fun x hx ha => h.to_ x ?_
  have := List.all_eq_true.1 h4 x hx
  simpa [ha] using this
theorem closed_of_own {v : Nat} (h2 : gOwn g v = player) (h3 : someL alive out (gNxt g v) = false) : Closed g alive player out v := by
  intro _ _
  refine ⟨fun _ u hu ha => ?_, fun h => absurd h2 h⟩
  have := List.any_eq_false.1 h3 u hu
  simp [ha] at this
  exact this
theorem closed_of_other {v : Nat} (h2 : gOwn g v ≠ player) (h3 : (anyL alive (gNxt g v) && allL alive out (gNxt g v)) = false) : Closed g alive player out v := by
  intro _ _
  refine ⟨fun h => absurd h h2, fun _ ⟨u, hu, ha⟩ => ?_⟩
  have h4 : anyL alive (gNxt g v) = true := List.any_eq_true.2 ⟨u, hu, ha⟩
  rw [h4, Bool.true_and] at h3
  have : ¬ allL alive out (gNxt g v) = true := by rw [h3]; simp
  unfold allL at this
  rw [List.all_eq_true] at this
  have h5 : ∃ x, x ∈ gNxt g v ∧ ¬ ((!inS alive x || inS out x) = true) := Classical.byContradiction fun hn => this fun x hx => Classical.byContradiction fun hn' => hn ⟨x, hx, hn'⟩
  obtain ⟨x, hx, hq⟩ := h5
  simp at hq
  exact ⟨x, hx, hq.1, hq.2⟩
theorem closed_dead {v : Nat} (h : inS alive v = false) : Closed g alive player out v := fun h1 => by rw [h] at h1; cases h1
theorem closed_in {v : Nat} (h : inS out v = true) : Closed g alive player out v := fun _ h1 => by rw [h] at h1; cases h1
end

/-- The least priority among vertices, and whether there is one. -/
def leastP (g : DV) (alive : List Bool) : Option Int :=
  (List.range g.length).foldl (fun a v => if inS alive v then some (match a with | none => gPri g v | some m => min m (gPri g v)) else a) none

/-- What the player 1 wins among vertices that are alive. -/
noncomputable def winF (g : DV) : Nat → List Bool → List Bool
  | 0, _ => setOf g.length fun _ => false
  | f + 1, alive =>
    match leastP g alive with
    | none => setOf g.length fun _ => false
    | some least =>
      let player := least % 2
      let first := attrF g alive player (setOf g.length fun v => inS alive v && decide (gPri g v = least))
      let rest := setOf g.length fun v => inS alive v && !inS first v
      let won := winF g f rest
      let other := setOf g.length fun v => inS rest v && (inS won v != decide (player = 1))
      if (List.range g.length).any (inS other) then
        let lost := attrF g alive (1 - player) other
        let won2 := winF g f (setOf g.length fun v => inS alive v && !inS lost v)
        setOf g.length fun v => inS alive v && ((inS lost v && decide (player = 0)) || (!inS lost v && inS won2 v))
      else setOf g.length fun v => inS alive v && decide (player = 1)

theorem winF_len (g : DV) (f : Nat) (alive : List Bool) : (winF g f alive).length = g.length := by
  cases f with
  | zero => exact setOf_len _ _
  | succ f =>
    unfold winF
    split
    · exact setOf_len _ _
    · dsimp only
      split <;> exact setOf_len _ _

theorem winF_sub (g : DV) (f : Nat) (alive : List Bool) {v : Nat} (h : inS (winF g f alive) v = true) : inS alive v = true := by
  cases f with
  | zero => unfold winF at h; rw [inS_setOf] at h; simp at h
  | succ f =>
    unfold winF at h
    split at h
    · rw [inS_setOf] at h; simp at h
    · dsimp only at h
      split at h <;> (rw [inS_setOf] at h; simp at h; exact h.2.1)

/-- The winners as the program reckons them. -/
noncomputable def stuckF (g : DV) (owner : Int) : List Bool := setOf g.length fun v => decide (gOwn g v = owner) && (gNxt g v).isEmpty
def wholeF (g : DV) : List Bool := setOf g.length fun _ => true
noncomputable def oneF (g : DV) : List Bool := attrF g (wholeF g) 1 (stuckF g 0)
noncomputable def zeroF (g : DV) : List Bool := attrF g (wholeF g) 0 (stuckF g 1)
noncomputable def restF (g : DV) : List Bool := setOf g.length fun v => !inS (zeroF g) v && !inS (oneF g) v
noncomputable def winnersF (g : DV) : List Int := (List.range g.length).map fun v => if inS (oneF g) v || (!inS (zeroF g) v && inS (winF g g.length (restF g)) v) then 1 else 0

theorem inS_whole {g : DV} {v : Nat} : inS (wholeF g) v = decide (v < g.length) := by unfold wholeF; rw [inS_setOf]; simp
theorem stuck_whole {g : DV} {o : Int} {v : Nat} (h : inS (stuckF g o) v = true) : inS (wholeF g) v = true := by
  rw [inS_whole]; unfold stuckF at h; rw [inS_setOf] at h; simp at h; simp [h.1]
theorem inS_stuck {g : DV} {o : Int} {v : Nat} (h : inS (stuckF g o) v = true) : gOwn g v = o ∧ gNxt g v = [] := by
  unfold stuckF at h; rw [inS_setOf] at h; simp at h; exact ⟨h.2.1, h.2.2⟩
theorem inS_oneF {g : DV} {v : Nat} : inS (oneF g) v = true ↔ Attr g (wholeF g) 1 (stuckF g 0) v := inS_attrF (setOf_len _ _) fun _ => stuck_whole
theorem inS_zeroF {g : DV} {v : Nat} : inS (zeroF g) v = true ↔ Attr g (wholeF g) 0 (stuckF g 1) v := inS_attrF (setOf_len _ _) fun _ => stuck_whole

/-- Each vertex is of one of two owners. -/
def Owned (g : DV) : Prop := ∀ v, v < g.length → gOwn g v = 0 ∨ gOwn g v = 1

/-- Nobody is forced to both ends. -/
theorem one_not_zero {g : DV} {v : Nat} (a : Attr g (wholeF g) 1 (stuckF g 0) v) : ¬ Attr g (wholeF g) 0 (stuckF g 1) v := by
  induction a with
  | base h =>
    obtain ⟨h1, h2⟩ := inS_stuck h
    intro z
    cases z with
    | base z => rw [(inS_stuck z).1] at h1; cases h1
    | own _ _ z => rw [h2] at z; cases z
    | other _ z => exact z h1
  | own h1 h2 h3 h4 _ ih =>
    intro z
    cases z with
    | base z => rw [(inS_stuck z).2] at h3; cases h3
    | own _ z => rw [z] at h2; cases h2
    | other _ _ _ _ z => exact ih (z _ h3 h4)
  | other h1 h2 h3 h4 _ ih =>
    intro z
    cases z with
    | base z => exact h2 (inS_stuck z).1
    | own _ _ z1 z2 z3 => exact ih _ z1 z2 z3
    | other _ z z1 z2 z3 => exact ih _ h3 h4 (z3 _ h3 h4)

/-- Taken one behind the other, the second attractor is the one of the whole game. -/
theorem one_in_rest {g : DV} (how : Owned g) : attrF g (setOf g.length fun v => !inS (zeroF g) v) 1 (setOf g.length fun v => !inS (zeroF g) v && decide (gOwn g v = 0) && (gNxt g v).isEmpty) = oneF g := by
  have hz : ∀ v, inS (zeroF g) v = false ↔ ¬ Attr g (wholeF g) 0 (stuckF g 1) v := fun v => by rw [← inS_zeroF]; simp
  have al : ∀ v, inS (setOf g.length fun v => !inS (zeroF g) v) v = true ↔ v < g.length ∧ ¬ Attr g (wholeF g) 0 (stuckF g 1) v := fun v => by
    rw [inS_setOf, ← hz]; simp
  have st : ∀ v, inS (setOf g.length fun v => !inS (zeroF g) v && decide (gOwn g v = 0) && (gNxt g v).isEmpty) v = true ↔ v < g.length ∧ ¬ Attr g (wholeF g) 0 (stuckF g 1) v ∧ gOwn g v = 0 ∧ gNxt g v = [] := fun v => by
    rw [inS_setOf, ← hz]; simp [and_assoc]
  have wh : ∀ v, inS (wholeF g) v = true ↔ v < g.length := fun v => by rw [inS_whole]; simp
  refine inS_ext (by rw [attrF_len, oneF, attrF_len]) fun v hv => ?_
  rw [Bool.eq_iff_iff, inS_oneF, inS_attrF (setOf_len _ _) (fun v hv => (al v).2 ⟨((st v).1 hv).1, ((st v).1 hv).2.1⟩)]
  clear hv
  constructor
  · intro a
    induction a with
    | base h =>
      obtain ⟨h1, _, h2, h3⟩ := (st _).1 h
      refine .base ?_
      unfold stuckF
      rw [inS_setOf]
      simp [h1, h2, h3]
    | own h1 h2 h3 h4 _ ih => exact .own ((wh _).2 ((al _).1 h1).1) h2 h3 ((wh _).2 ((al _).1 h4).1) ih
    | @other x u h1 h2 h3 h4 _ ih =>
      obtain ⟨b1, b2⟩ := (al _).1 h1
      refine .other ((wh _).2 b1) h2 h3 ((wh _).2 ((al _).1 h4).1) fun y hy hw => ?_
      refine ih y hy ((al _).2 ⟨(wh _).1 hw, fun z => b2 ?_⟩)
      rcases how x b1 with h5 | h5
      · exact .own ((wh _).2 b1) h5 hy hw z
      · exact absurd h5 h2
  · intro a
    have hv' : v < g.length := (wh _).1 (a.sub fun _ => stuck_whole)
    induction a with
    | base h =>
      obtain ⟨h1, h2⟩ := inS_stuck h
      exact .base ((st _).2 ⟨hv', one_not_zero (.base h), h1, h2⟩)
    | own h1 h2 h3 h4 h5 ih => exact .own ((al _).2 ⟨hv', one_not_zero (.own h1 h2 h3 h4 h5)⟩) h2 h3 ((al _).2 ⟨(wh _).1 h4, one_not_zero h5⟩) (ih ((wh _).1 h4))
    | other h1 h2 h3 h4 h5 ih => exact .other ((al _).2 ⟨hv', one_not_zero (.other h1 h2 h3 h4 h5)⟩) h2 h3 ((al _).2 ⟨(wh _).1 h4, one_not_zero (h5 _ h3 h4)⟩) fun x hx ha => ih x hx ((wh _).2 ((al _).1 ha).1) ((al _).1 ha).1

/-- The reference's winners are these. -/
theorem winners_eq {g : DV} (how : Owned g) :
    (let zero := zeroF g
     let rest := setOf g.length fun v => !inS zero v
     let one := attrF g rest 1 (setOf g.length fun v => inS rest v && decide (gOwn g v = 0) && (gNxt g v).isEmpty)
     let region := winF g g.length (setOf g.length fun v => inS rest v && !inS one v)
     (List.range g.length).map fun v => if inS one v || inS region v then (1 : Int) else 0) = winnersF g := by
  dsimp only
  have e1 : (setOf g.length fun v => inS (setOf g.length fun v => !inS (zeroF g) v) v && decide (gOwn g v = 0) && (gNxt g v).isEmpty) = setOf g.length fun v => !inS (zeroF g) v && decide (gOwn g v = 0) && (gNxt g v).isEmpty :=
    setOf_congr fun v hv => by rw [inS_setOf]; simp [hv]
  rw [e1, one_in_rest how]
  have e2 : (setOf g.length fun v => inS (setOf g.length fun v => !inS (zeroF g) v) v && !inS (oneF g) v) = restF g := setOf_congr fun v hv => by rw [inS_setOf]; simp [hv]
  rw [e2]
  unfold winnersF
  apply List.map_congr_left
  intro v hv
  congr 1
  rw [eq_iff_iff]
  have : inS (winF g g.length (restF g)) v = true → inS (zeroF g) v = false := fun h => by
    have := winF_sub _ _ _ h
    unfold restF at this
    rw [inS_setOf] at this
    simp at this
    exact this.2.1
  cases h1 : inS (oneF g) v <;> cases h2 : inS (winF g g.length (restF g)) v <;> simp_all

end Go.Proofs.Ytbnneahjjcamlaa
