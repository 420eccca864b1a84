/-
  The first choices by which each player wins: what the program and the reference compute, as plain mathematics. Conditions: valid games.
-/
import Derived.Test.YtbnneahjjcamlaaGame4
namespace Go.Proofs.Ytbnneahjjcamlaa
set_option linter.unusedVariables false

/-- The least priority that comes again and again on an infinite walk is player o's. -/
def Good (g : DV) (o : Int) (p : Nat → Nat) : Prop := ∃ m, m % 2 = o ∧ (∀ N, ∃ i, N ≤ i ∧ gPri g (p i) = m) ∧ ∃ N, ∀ i, N ≤ i → m ≤ gPri g (p i)

theorem Good.one {g : DV} {o o' : Int} {p : Nat → Nat} (h : Good g o p) (h' : Good g o' p) : o = o' := by
  obtain ⟨m, e, a, N, b⟩ := h
  obtain ⟨m', e', a', N', b'⟩ := h'
  obtain ⟨i, hi, hm⟩ := a N'
  obtain ⟨j, hj, hm'⟩ := a' N
  have h1 := b' i hi
  have h2 := b j hj
  have : m = m' := by omega
  rw [← e, ← e', this]

theorem Good.tail {g : DV} {o : Int} {p : Nat → Nat} (k : Nat) (h : Good g o (fun i => p (i + k))) : Good g o p := by
  obtain ⟨m, e, a, N, b⟩ := h
  refine ⟨m, e, fun M => ?_, N + k, fun i hi => ?_⟩
  · obtain ⟨i, hi, hm⟩ := a M
    exact ⟨i + k, by omega, hm⟩
  · have := b (i - k) (by omega)
    dsimp only at this
    rwa [Nat.sub_add_cancel (by omega)] at this

/-- An infinite walk within W on which player o moves by σ. -/
structure Play (g : DV) (o : Int) (σ : Nat → Nat) (W : Nat → Prop) (p : Nat → Nat) : Prop where
  mem : ∀ i, W (p i)
  go : ∀ i, p (i + 1) ∈ gNxt g (p i)
  own : ∀ i, gOwn g (p i) = o → p (i + 1) = σ (p i)
theorem Play.tail {g : DV} {o : Int} {σ : Nat → Nat} {W : Nat → Prop} {p : Nat → Nat} (h : Play g o σ W p) (k : Nat) : Play g o σ W (fun i => p (i + k)) :=
  ⟨fun i => h.mem _, fun i => by have := h.go (i + k); rwa [show i + k + 1 = i + 1 + k by omega] at this, fun i ho => by have := h.own (i + k) ho; rwa [show i + k + 1 = i + 1 + k by omega] at this⟩

/-- Player o, moving by σ, keeps within U or goes to T, and wins what stays in U for ever. -/
structure RCert (g : DV) (al : Nat → Prop) (o : Int) (T U : Nat → Prop) (σ : Nat → Nat) : Prop where
  sub : ∀ v, U v → al v
  own : ∀ v, U v → gOwn g v = o → σ v ∈ gNxt g v ∧ (U (σ v) ∨ T (σ v))
  opp : ∀ v, U v → gOwn g v ≠ o → ∀ u, u ∈ gNxt g v → al u → U u ∨ T u
  win : ∀ p, Play g o σ U p → Good g o p
/-- Player o wins W among the vertices of al. -/
def Cert (g : DV) (al : Nat → Prop) (o : Int) (W : Nat → Prop) (σ : Nat → Nat) : Prop := RCert g al o (fun _ => False) W σ

theorem RCert.join {g : DV} {al : Nat → Prop} {o : Int} {T U : Nat → Prop} {σ τ : Nat → Nat} (hT : Cert g al o T σ) (hU : RCert g al o T U τ) : ∃ ρ, Cert g al o (fun v => T v ∨ U v) ρ := by
  classical
  refine ⟨fun v => if T v then σ v else τ v, fun v h => ?_, fun v h ho => ?_, fun v h ho u hu ha => ?_, fun p hp => ?_⟩
  · rcases h with h | h
    · exact hT.sub v h
    · exact hU.sub v h
  · by_cases t : T v
    · obtain ⟨a, b⟩ := hT.own v t ho
      rw [if_pos t]
      exact ⟨a, .inl (.inl (b.resolve_right id))⟩
    · obtain ⟨a, b⟩ := hU.own v (h.resolve_left t) ho
      rw [if_neg t]
      exact ⟨a, .inl b.symm⟩
  · left
    by_cases t : T v
    · exact .inl ((hT.opp v t ho u hu ha).resolve_right id)
    · exact (hU.opp v (h.resolve_left t) ho u hu ha).symm
  · by_cases e : ∃ k, T (p k)
    · obtain ⟨k, hk⟩ := e
      have hal : ∀ i, al (p i) := fun i => by rcases hp.mem i with h | h; exact hT.sub _ h; exact hU.sub _ h
      have hall : ∀ i, T (p (i + k)) := by
        intro i
        induction i with
        | zero => rw [Nat.zero_add]; exact hk
        | succ i ih =>
          rw [show i + 1 + k = i + k + 1 by omega]
          by_cases ho : gOwn g (p (i + k)) = o
          · have h1 := hp.own _ ho
            rw [if_pos ih] at h1
            rw [h1]
            exact (hT.own _ ih ho).2.resolve_right id
          · exact (hT.opp _ ih ho _ (hp.go _) (hal _)).resolve_right id
      refine Good.tail k (hT.win _ ⟨hall, (hp.tail k).go, fun i ho => ?_⟩)
      have h1 := (hp.tail k).own i ho
      rwa [if_pos (hall i)] at h1
    · refine hU.win p ⟨fun i => (hp.mem i).resolve_left fun t => e ⟨i, t⟩, hp.go, fun i ho => ?_⟩
      have h1 := hp.own i ho
      rwa [if_neg (fun t => e ⟨i, t⟩)] at h1

theorem Cert.congr {g : DV} {al : Nat → Prop} {o : Int} {W W' : Nat → Prop} {σ : Nat → Nat} (h : Cert g al o W σ) (e : ∀ v, W v ↔ W' v) : Cert g al o W' σ := by
  have : W = W' := funext fun v => propext (e v)
  rwa [← this]

/-- No vertex is won by both. -/
theorem Cert.apart {g : DV} (how : Owned g) {W W' : Nat → Prop} {σ τ : Nat → Nat} (h : Cert g (· < g.length) 0 W σ) (k : Cert g (· < g.length) 1 W' τ) (hs : ∀ v u, u ∈ gNxt g v → u < g.length) {v : Nat} (hv : W v) (hv' : W' v) : False := by
  classical
  let step : Nat → Nat := fun v => if gOwn g v = 0 then σ v else τ v
  let p : Nat → Nat := fun i => Nat.rec v (fun _ x => step x) i
  have hp1 : ∀ i, p (i + 1) = step (p i) := fun i => rfl
  have key : ∀ x, W x → W' x → step x ∈ gNxt g x ∧ W (step x) ∧ W' (step x) := by
    intro x hx hx'
    by_cases ho : gOwn g x = 0
    · have e : step x = σ x := if_pos ho
      rw [e]
      obtain ⟨a, b⟩ := h.own x hx ho
      exact ⟨a, b.resolve_right id, (k.opp x hx' (by omega) _ a (hs _ _ a)).resolve_right id⟩
    · have e : step x = τ x := if_neg ho
      rw [e]
      have ho1 : gOwn g x = 1 := (how x (h.sub x hx)).resolve_left ho
      obtain ⟨a, b⟩ := k.own x hx' ho1
      exact ⟨a, (h.opp x hx ho _ a (hs _ _ a)).resolve_right id, b.resolve_right id⟩
  have hall : ∀ i, W (p i) ∧ W' (p i) := by
    intro i
    induction i with
    | zero => exact ⟨hv, hv'⟩
    | succ i ih => rw [hp1]; exact (key _ ih.1 ih.2).2
  have hgo : ∀ i, p (i + 1) ∈ gNxt g (p i) := fun i => by rw [hp1]; exact (key _ (hall i).1 (hall i).2).1
  have g0 := h.win p ⟨fun i => (hall i).1, hgo, fun i ho => by rw [hp1]; exact if_pos ho⟩
  have g1 := k.win p ⟨fun i => (hall i).2, hgo, fun i ho => by rw [hp1]; exact if_neg (by omega)⟩
  have := g0.one g1
  omega

/-- Stages of the attractor. -/
def AttrN (g : DV) (alive : List Bool) (o : Int) (set : List Bool) : Nat → Nat → Prop
  | 0, v => inS set v = true
  | k + 1, v => AttrN g alive o set k v ∨ (inS alive v = true ∧ gOwn g v = o ∧ ∃ u, u ∈ gNxt g v ∧ inS alive u = true ∧ AttrN g alive o set k u) ∨
      (inS alive v = true ∧ gOwn g v ≠ o ∧ (∃ u, u ∈ gNxt g v ∧ inS alive u = true) ∧ ∀ x, x ∈ gNxt g v → inS alive x = true → AttrN g alive o set k x)
section
variable {g : DV} {alive : List Bool} {o : Int} {set : List Bool}
theorem AttrN.mono {k l v : Nat} (h : AttrN g alive o set k v) (hl : k ≤ l) : AttrN g alive o set l v := by
  induction l with
  | zero => have : k = 0 := by omega
            subst this; exact h
  | succ l ih =>
    rcases Nat.lt_or_ge k (l + 1) with h1 | h1
    · exact .inl (ih (by omega))
    · have : k = l + 1 := by omega
      subst this; exact h
theorem AttrN.attr : ∀ {k v : Nat}, AttrN g alive o set k v → Attr g alive o set v
  | 0, v, h => .base h
  | k + 1, v, .inl h => AttrN.attr h
  | k + 1, v, .inr (.inl ⟨a, b, u, c, d, e⟩) => .own a b c d (AttrN.attr e)
  | k + 1, v, .inr (.inr ⟨a, b, ⟨u, c, d⟩, e⟩) => .other a b c d fun x hx ha => AttrN.attr (e x hx ha)
theorem bound_list {Q : Nat → Nat → Prop} (mono : ∀ k l x, k ≤ l → Q k x → Q l x) : ∀ (l : List Nat), (∀ x, x ∈ l → ∃ k, Q k x) → ∃ K, ∀ x, x ∈ l → Q K x
  | [], _ => ⟨0, fun x h => (List.not_mem_nil h).elim⟩
  | y :: l, h => by
    obtain ⟨K, hK⟩ := bound_list mono l fun x hx => h x (List.mem_cons_of_mem _ hx)
    obtain ⟨k, hk⟩ := h y (List.mem_cons_self ..)
    refine ⟨max K k, fun x hx => ?_⟩
    rcases List.mem_cons.1 hx with rfl | hx
    · exact mono k _ _ (Nat.le_max_right _ _) hk
    · exact mono K _ _ (Nat.le_max_left _ _) (hK x hx)
theorem Attr.stage {v : Nat} (h : Attr g alive o set v) : ∃ k, AttrN g alive o set k v := by
  induction h with
  | base h => exact ⟨0, h⟩
  | own a b c d _ ih => obtain ⟨k, hk⟩ := ih; exact ⟨k + 1, .inr (.inl ⟨a, b, _, c, d, hk⟩)⟩
  | @other v u a b c d _ ih =>
    obtain ⟨K, hK⟩ := bound_list (Q := fun k x => inS alive x = true → AttrN g alive o set k x) (fun k l x hl h ha => (h ha).mono hl) (gNxt g v) (fun x hx => by
      by_cases ha : inS alive x = true
      · obtain ⟨k, hk⟩ := ih x hx ha; exact ⟨k, fun _ => hk⟩
      · exact ⟨0, fun h => absurd h ha⟩)
    exact ⟨K + 1, .inr (.inr ⟨a, b, ⟨u, c, d⟩, hK⟩)⟩
theorem least_of {P : Nat → Prop} (h : ∃ k, P k) : ∃ k, P k ∧ ∀ j, j < k → ¬ P j := by
  classical
  obtain ⟨k, hk⟩ := h
  induction k using Nat.strongRecOn with
  | ind k ih =>
    by_cases e : ∃ j, j < k ∧ P j
    · obtain ⟨j, hj, hp⟩ := e; exact ih j hj hp
    · exact ⟨k, hk, fun j hj hp => e ⟨j, hj, hp⟩⟩

/-- The attractor's strategy. -/
theorem Attr.strategy (g : DV) (alive : List Bool) (o : Int) (set : List Bool) : ∃ (τ rk : Nat → Nat),
    (∀ v, Attr g alive o set v → inS set v = false → gOwn g v = o → τ v ∈ gNxt g v ∧ inS alive (τ v) = true ∧ Attr g alive o set (τ v) ∧ rk (τ v) < rk v) ∧
    (∀ v, Attr g alive o set v → inS set v = false → gOwn g v ≠ o → ∀ u, u ∈ gNxt g v → inS alive u = true → Attr g alive o set u ∧ rk u < rk v) := by
  classical
  obtain ⟨rk, hrk⟩ := Classical.axiomOfChoice (show ∀ v, ∃ k, Attr g alive o set v → (AttrN g alive o set k v ∧ ∀ j, j < k → ¬ AttrN g alive o set j v) from fun v => by
    by_cases h : Attr g alive o set v
    · obtain ⟨k, hk⟩ := least_of h.stage; exact ⟨k, fun _ => hk⟩
    · exact ⟨0, fun h' => absurd h' h⟩)
  have low : ∀ u j, AttrN g alive o set j u → rk u ≤ j := fun u j h => Classical.byContradiction fun hn => (hrk u h.attr).2 j (by omega) h
  have step : ∀ v, Attr g alive o set v → inS set v = false → ∃ k, rk v = k + 1 ∧ ((inS alive v = true ∧ gOwn g v = o ∧ ∃ u, u ∈ gNxt g v ∧ inS alive u = true ∧ AttrN g alive o set k u) ∨
      (inS alive v = true ∧ gOwn g v ≠ o ∧ (∃ u, u ∈ gNxt g v ∧ inS alive u = true) ∧ ∀ x, x ∈ gNxt g v → inS alive x = true → AttrN g alive o set k x)) := by
    intro v hv hs
    obtain ⟨h1, h2⟩ := hrk v hv
    cases hk : rk v with
    | zero => rw [hk] at h1; have h1 : inS set v = true := h1; rw [hs] at h1; cases h1
    | succ k =>
      rw [hk] at h1
      rcases h1 with h1 | h1
      · exact absurd h1 (h2 k (by omega))
      · exact ⟨k, rfl, h1⟩
  obtain ⟨τ, hτ⟩ := Classical.axiomOfChoice (show ∀ v, ∃ u, (Attr g alive o set v ∧ inS set v = false ∧ gOwn g v = o) → (u ∈ gNxt g v ∧ inS alive u = true ∧ Attr g alive o set u ∧ rk u < rk v) from fun v => by
    by_cases h : Attr g alive o set v ∧ inS set v = false ∧ gOwn g v = o
    · obtain ⟨k, hk, h1 | h1⟩ := step v h.1 h.2.1
      · obtain ⟨_, _, u, c, d, e⟩ := h1
        exact ⟨u, fun _ => ⟨c, d, e.attr, by have := low u k e; omega⟩⟩
      · exact absurd h.2.2 h1.2.1
    · exact ⟨0, fun h' => absurd h' h⟩)
  refine ⟨τ, rk, fun v a b c => hτ v ⟨a, b, c⟩, fun v a b c u hu ha => ?_⟩
  obtain ⟨k, hk, h1 | h1⟩ := step v a b
  · exact absurd h1.2.1 c
  · have h2 := h1.2.2.2 u hu ha
    exact ⟨h2.attr, by have := low u k h2; omega⟩

/-- What is attracted to T is won with T. -/
theorem Attr.rcert (hs : ∀ v, inS set v = true → inS alive v = true) {T : Nat → Prop} (hT : ∀ v, inS set v = true ↔ T v) : ∃ τ, RCert g (fun v => inS alive v = true) o T (fun v => Attr g alive o set v ∧ inS set v = false) τ := by
  obtain ⟨τ, rk, h1, h2⟩ := Attr.strategy g alive o set
  have side : ∀ u, Attr g alive o set u → (Attr g alive o set u ∧ inS set u = false) ∨ T u := fun u hu => by
    cases h : inS set u with
    | true => exact .inr ((hT u).1 h)
    | false => exact .inl ⟨hu, rfl⟩
  refine ⟨τ, fun v h => h.1.sub hs, fun v h ho => ?_, fun v h ho u hu ha => side u (h2 v h.1 h.2 ho u hu ha).1, fun p hp => ?_⟩
  · obtain ⟨a, b, c, d⟩ := h1 v h.1 h.2 ho
    exact ⟨a, side _ c⟩
  · exfalso
    have down : ∀ i, rk (p (i + 1)) < rk (p i) := fun i => by
      by_cases ho : gOwn g (p i) = o
      · rw [hp.own i ho]; exact (h1 _ (hp.mem i).1 (hp.mem i).2 ho).2.2.2
      · exact (h2 _ (hp.mem i).1 (hp.mem i).2 ho _ (hp.go i) ((hp.mem (i + 1)).1.sub hs)).2
    have low : ∀ i, rk (p i) + i ≤ rk (p 0) := by
      intro i
      induction i with
      | zero => omega
      | succ i ih => have := down i; omega
    have := low (rk (p 0) + 1)
    omega
end


/-- Every vertex that is alive can move to one that is. -/
def TotalS (g : DV) (alive : List Bool) : Prop := ∀ v, inS alive v = true → ∃ u, u ∈ gNxt g v ∧ inS alive u = true
/-- What player o wins among the vertices that are alive. -/
def Reg (g : DV) (o : Int) (alive : List Bool) (f : Nat) (v : Nat) : Prop := inS alive v = true ∧ inS (winF g f alive) v = decide (o = 1)

theorem Cert.empty {g : DV} {al : Nat → Prop} {o : Int} {W : Nat → Prop} (h : ∀ v, ¬ W v) : Cert g al o W id := ⟨fun v hv => absurd hv (h v), fun v hv => absurd hv (h v), fun v hv => absurd hv (h v), fun p hp => absurd (hp.mem 0) (h _)⟩
theorem Cert.lift {g : DV} {al al' : Nat → Prop} {o : Int} {W : Nat → Prop} {σ : Nat → Nat} (h : Cert g al o W σ) (hs : ∀ v, al v → al' v) (hb : ∀ v, W v → gOwn g v ≠ o → ∀ u, u ∈ gNxt g v → al' u → al u) : Cert g al' o W σ :=
  ⟨fun v hv => hs v (h.sub v hv), h.own, fun v hv ho u hu ha => h.opp v hv ho u hu (hb v hv ho u hu ha), h.win⟩
theorem Cert.relax {g : DV} {al al' : Nat → Prop} {o : Int} {T W : Nat → Prop} {σ : Nat → Nat} (h : Cert g al o W σ) (hs : ∀ v, al v → al' v) (hb : ∀ u, al' u → al u ∨ T u) : RCert g al' o T W σ :=
  ⟨fun v hv => hs v (h.sub v hv), fun v hv ho => ⟨(h.own v hv ho).1, (h.own v hv ho).2.imp id (fun h => h.elim)⟩, fun v hv ho u hu ha => by
    rcases hb u ha with hb | hb
    · exact (h.opp v hv ho u hu hb).imp id (fun h => h.elim)
    · exact .inr hb, h.win⟩

section
variable {g : DV} {alive : List Bool} {o : Int} {set : List Bool}
theorem numS_pos {s : List Bool} {v : Nat} (h : inS s v = true) : 0 < numS s :=
  Nat.lt_of_le_of_lt (Nat.zero_le _) (numS_lt (s := setOf s.length fun _ => false) (t := s) (setOf_len _ _) (fun u hu => by rw [inS_setOf] at hu; simp at hu) h (by rw [inS_setOf]; simp))
theorem inS_less (hl : alive.length = g.length) (hs : ∀ v, inS set v = true → inS alive v = true) {v : Nat} : inS (lessF g alive (attrF g alive o set)) v = true ↔ inS alive v = true ∧ ¬ Attr g alive o set v := by
  rw [inS_lessF, ← inS_attrF hl hs]
  constructor
  · intro h
    simp at h
    exact ⟨h.2.1, by rw [h.2.2]; simp⟩
  · intro h
    have hv : v < g.length := by rw [← hl]; exact inS_lt h.1
    simp [hv, h.1]
    simpa using h.2
theorem total_less (hl : alive.length = g.length) (hs : ∀ v, inS set v = true → inS alive v = true) (ht : TotalS g alive) : TotalS g (lessF g alive (attrF g alive o set)) := by
  intro v hv
  rw [inS_less hl hs] at hv
  obtain ⟨ha, hn⟩ := hv
  by_cases ho : gOwn g v = o
  · obtain ⟨u, hu, hua⟩ := ht v ha
    exact ⟨u, hu, (inS_less hl hs).2 ⟨hua, fun h => hn (.own ha ho hu hua h)⟩⟩
  · obtain ⟨u, hu, hua⟩ := ht v ha
    exact Classical.byContradiction fun hc => hn (.other ha ho hu hua fun x hx hxa => Classical.byContradiction fun hx' => hc ⟨x, hx, (inS_less hl hs).2 ⟨hxa, hx'⟩⟩)

theorem leastP_le {d : Int} (hd : leastP g alive = some d) (hl : alive.length = g.length) {v : Nat} (hv : inS alive v = true) : d ≤ gPri g v := by
  have := minK_spec g alive g.length
  rw [leastP_min] at hd
  rw [hd] at this
  exact this.2 v (by rw [← hl]; exact inS_lt hv) hv

/-- All is won where the other player wins nothing of the rest. -/
theorem cert_stop {d : Int} (hl : alive.length = g.length) (hd : leastP g alive = some d) (ht : TotalS g alive) {σ : Nat → Nat} (hR : Cert g (fun v => inS (lessF g alive (aimF g alive d)) v = true) (d % 2) (fun v => inS (lessF g alive (aimF g alive d)) v = true) σ) :
    ∃ ρ, Cert g (fun v => inS alive v = true) (d % 2) (fun v => inS alive v = true) ρ := by
  classical
  have hs : ∀ v, inS (firstF g alive d) v = true → inS alive v = true := fun _ => firstF_sub
  obtain ⟨τ, rk, h1, h2⟩ := Attr.strategy g alive (d % 2) (firstF g alive d)
  obtain ⟨any, hany⟩ := Classical.axiomOfChoice (show ∀ v, ∃ u, inS alive v = true → (u ∈ gNxt g v ∧ inS alive u = true) from fun v => by
    by_cases h : inS alive v = true
    · obtain ⟨u, hu⟩ := ht v h; exact ⟨u, fun _ => hu⟩
    · exact ⟨0, fun h' => absurd h' h⟩)
  have hpri : ∀ v, inS alive v = true → d ≤ gPri g v := by
    intro v hv
    have := leastP_le hd hl hv
    exact this
  have hfirst : ∀ v, inS (firstF g alive d) v = true → gPri g v = d := fun v h => by
    unfold firstF at h
    rw [inS_setOf] at h
    simp at h
    exact h.2.2
  refine ⟨fun v => if inS (firstF g alive d) v = true then any v else if Attr g alive (d % 2) (firstF g alive d) v then τ v else σ v, fun v h => h, fun v h ho => ?_, fun v h ho u hu ha => .inl ha, fun p hp => ?_⟩
  · by_cases c1 : inS (firstF g alive d) v = true
    · rw [if_pos c1]
      exact ⟨(hany v h).1, .inl (hany v h).2⟩
    · rw [if_neg c1]
      by_cases c2 : Attr g alive (d % 2) (firstF g alive d) v
      · rw [if_pos c2]
        have := h1 v c2 (Bool.eq_false_iff.2 c1) ho
        exact ⟨this.1, .inl this.2.1⟩
      · rw [if_neg c2]
        have hv : inS (lessF g alive (aimF g alive d)) v = true := (inS_less hl hs).2 ⟨h, c2⟩
        obtain ⟨a, b⟩ := hR.own v hv ho
        have b := b.resolve_right id
        exact ⟨a, .inl ((inS_less hl hs).1 b).1⟩
  · by_cases e : ∃ N, ∀ i, N ≤ i → ¬ Attr g alive (d % 2) (firstF g alive d) (p i)
    · obtain ⟨N, hN⟩ := e
      refine Good.tail N (hR.win _ ⟨fun i => (inS_less hl hs).2 ⟨hp.mem _, hN _ (by omega)⟩, (hp.tail N).go, fun i ho => ?_⟩)
      have h3 := (hp.tail N).own i ho
      have hn := hN (i + N) (by omega)
      rw [if_neg (fun c => hn (.base c)), if_neg hn] at h3
      exact h3
    · have hinf : ∀ N, ∃ i, N ≤ i ∧ Attr g alive (d % 2) (firstF g alive d) (p i) := fun N => Classical.byContradiction fun hc => e ⟨N, fun i hi ha => hc ⟨i, hi, ha⟩⟩
      have reach : ∀ k i, rk (p i) ≤ k → Attr g alive (d % 2) (firstF g alive d) (p i) → ∃ j, i ≤ j ∧ inS (firstF g alive d) (p j) = true := by
        intro k
        induction k with
        | zero =>
          intro i hk ha
          cases c : inS (firstF g alive d) (p i) with
          | true => exact ⟨i, Nat.le_refl _, c⟩
          | false =>
            exfalso
            by_cases ho : gOwn g (p i) = d % 2
            · have := (h1 _ ha c ho).2.2.2; omega
            · have := (h2 _ ha c ho _ (hp.go i) (hp.mem _)).2; omega
        | succ k ih =>
          intro i hk ha
          cases c : inS (firstF g alive d) (p i) with
          | true => exact ⟨i, Nat.le_refl _, c⟩
          | false =>
            have hnext : Attr g alive (d % 2) (firstF g alive d) (p (i + 1)) ∧ rk (p (i + 1)) < rk (p i) := by
              by_cases ho : gOwn g (p i) = d % 2
              · have h3 := hp.own i ho
                rw [if_neg (by rw [c]; simp), if_pos ha] at h3
                rw [h3]
                exact ⟨(h1 _ ha c ho).2.2.1, (h1 _ ha c ho).2.2.2⟩
              · exact h2 _ ha c ho _ (hp.go i) (hp.mem _)
            obtain ⟨j, hj, hc⟩ := ih (i + 1) (by omega) hnext.1
            exact ⟨j, by omega, hc⟩
      refine ⟨d, rfl, fun N => ?_, 0, fun i _ => hpri _ (hp.mem i)⟩
      obtain ⟨i, hi, ha⟩ := hinf N
      obtain ⟨j, hj, hc⟩ := reach _ i (Nat.le_refl _) ha
      exact ⟨j, by omega, hfirst _ hc⟩

/-- One step of the recursion. -/
theorem region_cert (how : Owned g) : ∀ (f : Nat) (alive : List Bool), alive.length = g.length → numS alive ≤ f → TotalS g alive → ∀ o : Int, (o = 0 ∨ o = 1) → ∃ σ, Cert g (fun v => inS alive v = true) o (Reg g o alive f) σ := by
  intro f
  induction f with
  | zero =>
    intro alive hl hn ht o ho
    exact ⟨id, Cert.empty fun v h => by have := numS_pos h.1; omega⟩
  | succ f ih =>
    intro alive hl hn ht o ho
    cases hd : leastP g alive with
    | none => exact ⟨id, Cert.empty fun v h => by have := leastP_no hd hl v; have h1 := h.1; rw [this] at h1; cases h1⟩
    | some d =>
      have hfs : ∀ v, inS (firstF g alive d) v = true → inS alive v = true := fun _ => firstF_sub
      have hRt : TotalS g (lessF g alive (aimF g alive d)) := total_less hl hfs ht
      have hRl : (lessF g alive (aimF g alive d)).length = g.length := setOf_len _ _
      have hRn : numS (lessF g alive (aimF g alive d)) ≤ f := by have := rest_lt hl hd; omega
      have ihR := ih _ hRl hRn hRt
      have hRin : ∀ v, inS (lessF g alive (aimF g alive d)) v = true ↔ inS alive v = true ∧ ¬ Attr g alive (d % 2) (firstF g alive d) v := fun v => inS_less hl hfs
      have hlt : ∀ v, inS alive v = true → v < g.length := fun v h => by rw [← hl]; exact inS_lt h
      have hdp : d % 2 = 0 ∨ d % 2 = 1 := by omega
      cases hany : anyS (otherF g (lessF g alive (aimF g alive d)) (winF g f (lessF g alive (aimF g alive d))) (d % 2)) with
      | false =>
        have hw := winF_stop hd hany
        have hin : ∀ v, inS alive v = true → inS (winF g (f + 1) alive) v = decide (d % 2 = 1) := fun v h => by rw [hw, inS_setOf]; simp [hlt v h, h]
        by_cases hod : o = d % 2
        · subst hod
          have hno : ∀ v, inS (lessF g alive (aimF g alive d)) v = true → inS (winF g f (lessF g alive (aimF g alive d))) v = decide (d % 2 = 1) := by
            intro v hv
            cases c : inS (otherF g (lessF g alive (aimF g alive d)) (winF g f (lessF g alive (aimF g alive d))) (d % 2)) v with
            | true => rw [anyS_of (by rw [otherF_len]; exact hlt v ((hRin v).1 hv).1) c] at hany; cases hany
            | false =>
              unfold otherF at c
              rw [inS_setOf] at c
              simpa [hlt v ((hRin v).1 hv).1, hv] using c
          obtain ⟨σ, hσ⟩ := ihR (d % 2) ho
          obtain ⟨ρ, hρ⟩ := cert_stop hl hd ht (hσ.congr fun v => ⟨fun h => h.1, fun h => ⟨h, hno v h⟩⟩)
          exact ⟨ρ, hρ.congr fun v => ⟨fun h => ⟨h, hin v h⟩, fun h => h.1⟩⟩
        · refine ⟨id, Cert.empty fun v h => ?_⟩
          have h1 := hin v h.1
          rw [h.2] at h1
          rcases ho with rfl | rfl <;> rcases hdp with e | e <;> simp [e] at h1 hod
      | true =>
        have hw := winF_go hd hany
        have hln := lost_lt (p2 := 1 - d % 2) hl hany
        dsimp only at hw
        generalize hot : otherF g (lessF g alive (aimF g alive d)) (winF g f (lessF g alive (aimF g alive d))) (d % 2) = ot at *
        have hots : ∀ v, inS ot v = true → inS alive v = true := fun v h => by rw [← hot] at h; exact otherF_sub h
        have hlin : ∀ v, inS (attrF g alive (1 - d % 2) ot) v = true ↔ Attr g alive (1 - d % 2) ot v := fun v => inS_attrF hl hots
        have hR2t : TotalS g (lessF g alive (attrF g alive (1 - d % 2) ot)) := total_less hl hots ht
        have hR2in : ∀ v, inS (lessF g alive (attrF g alive (1 - d % 2) ot)) v = true ↔ inS alive v = true ∧ ¬ Attr g alive (1 - d % 2) ot v := fun v => inS_less hl hots
        have ih2 := ih (lessF g alive (attrF g alive (1 - d % 2) ot)) (setOf_len _ _) (by omega) hR2t
        -- the other player's part of the rest is won among all
        have hotv : ∀ v, inS ot v = true ↔ Reg g (1 - d % 2) (lessF g alive (aimF g alive d)) f v := by
          intro v
          rw [← hot]
          unfold otherF Reg
          rw [inS_setOf]
          constructor
          · intro h
            simp only [Bool.and_eq_true, decide_eq_true_eq] at h
            refine ⟨h.2.1, ?_⟩
            have h2 := h.2.2
            rcases hdp with e | e <;> rw [e] at h2 ⊢ <;> simpa using h2
          · intro h
            simp only [Bool.and_eq_true, decide_eq_true_eq]
            refine ⟨hlt v ((hRin v).1 h.1).1, h.1, ?_⟩
            rw [h.2]
            rcases hdp with e | e <;> rw [e] <;> decide
        obtain ⟨σ, hσ⟩ := ihR (1 - d % 2) (by omega)
        have hT : Cert g (fun v => inS alive v = true) (1 - d % 2) (fun v => inS ot v = true) σ := (hσ.lift (fun v h => ((hRin v).1 h).1) (fun v hv ho' u hu ha => by
          have hva := (hRin v).1 hv.1
          refine (hRin u).2 ⟨ha, fun hau => hva.2 (.own hva.1 ?_ hu ha hau)⟩
          rcases how v (hlt v hva.1) with e | e <;> omega)).congr fun v => (hotv v).symm
        obtain ⟨τ, hU⟩ := Attr.rcert (o := 1 - d % 2) hots (T := fun v => inS ot v = true) (fun v => Iff.rfl)
        obtain ⟨ρ, hL⟩ := RCert.join hT hU
        have hL2 : Cert g (fun v => inS alive v = true) (1 - d % 2) (fun v => Attr g alive (1 - d % 2) ot v) ρ := hL.congr fun v => ⟨fun h => h.elim (fun h => .base h) (fun h => h.1), fun h => by
          cases c : inS ot v with
          | true => exact .inl rfl
          | false => exact .inr ⟨h, rfl⟩⟩
        have hwin : ∀ v, inS alive v = true → inS (winF g (f + 1) alive) v = ((inS (attrF g alive (1 - d % 2) ot) v && decide (d % 2 = 0)) || (!inS (attrF g alive (1 - d % 2) ot) v && inS (winF g f (lessF g alive (attrF g alive (1 - d % 2) ot))) v)) := fun v h => by
          rw [hw, inS_setOf]; simp [hlt v h, h]
        by_cases hod : o = d % 2
        · obtain ⟨σ2, h2⟩ := ih2 o ho
          refine ⟨σ2, (h2.lift (fun v h => ((hR2in v).1 h).1) (fun v hv ho' u hu ha => ?_)).congr fun v => ⟨fun h => ?_, fun h => ?_⟩⟩
          · have hva := (hR2in v).1 hv.1
            refine (hR2in u).2 ⟨ha, fun hau => hva.2 (.own hva.1 ?_ hu ha hau)⟩
            rcases how v (hlt v hva.1) with e | e <;> omega
          · have hva := (hR2in v).1 h.1
            refine ⟨hva.1, ?_⟩
            rw [hwin v hva.1, show inS (attrF g alive (1 - d % 2) ot) v = false from Bool.eq_false_iff.2 fun c => hva.2 ((hlin v).1 c), h.2]
            simp
          · have h1 := hwin v h.1
            rw [h.2] at h1
            cases c : inS (attrF g alive (1 - d % 2) ot) v with
            | true =>
              exfalso
              rw [c, hod] at h1
              rcases hdp with e | e <;> rw [e] at h1 <;> simp at h1
            | false =>
              rw [c] at h1
              refine ⟨(hR2in v).2 ⟨h.1, fun ha => ?_⟩, by simpa using h1.symm⟩
              rw [(hlin v).2 ha] at c; cases c
        · have hoq : o = 1 - d % 2 := by omega
          obtain ⟨σ2, h2⟩ := ih2 o ho
          rw [← hoq] at hL2
          obtain ⟨ρ2, h3⟩ := RCert.join hL2 (h2.relax (T := fun v => Attr g alive o ot v) (al' := fun v => inS alive v = true) (fun v h => ((hR2in v).1 h).1) (fun u ha => by
            by_cases c : Attr g alive o ot u
            · exact .inr c
            · exact .inl ((hR2in u).2 ⟨ha, by rw [← hoq]; exact c⟩)))
          refine ⟨ρ2, h3.congr fun v => ⟨fun h => ?_, fun h => ?_⟩⟩
          · rcases h with h | h
            · have ha := h.sub hots
              refine ⟨ha, ?_⟩
              rw [hwin v ha, (hlin v).2 (by rw [← hoq]; exact h), hoq]
              rcases hdp with e | e <;> rw [e] <;> simp
            · have hva := (hR2in v).1 h.1
              refine ⟨hva.1, ?_⟩
              rw [hwin v hva.1, show inS (attrF g alive (1 - d % 2) ot) v = false from Bool.eq_false_iff.2 fun c => hva.2 ((hlin v).1 c), h.2]
              simp
          · by_cases c : Attr g alive o ot v
            · exact .inl c
            · right
              have h1 := hwin v h.1
              rw [h.2, show inS (attrF g alive (1 - d % 2) ot) v = false from Bool.eq_false_iff.2 fun c' => c (by rw [hoq]; exact (hlin v).1 c')] at h1
              exact ⟨(hR2in v).2 ⟨h.1, by rw [← hoq]; exact c⟩, by simpa using h1.symm⟩
end


section
variable {g : DV} {o q : Int}
theorem stuck_cert (hoq : q ≠ o) : Cert g (fun v => inS (wholeF g) v = true) o (fun v => inS (stuckF g q) v = true) id :=
  ⟨fun v h => stuck_whole h, fun v h ho => absurd ((inS_stuck h).1.symm.trans ho) hoq, fun v h _ u hu => by rw [(inS_stuck h).2] at hu; exact (List.not_mem_nil hu).elim, fun p hp => by
    have := hp.go 0
    rw [(inS_stuck (hp.mem 0)).2] at this
    exact (List.not_mem_nil this).elim⟩
theorem Cert.relax2 {al al' : Nat → Prop} {T W : Nat → Prop} {σ : Nat → Nat} (h : Cert g al o W σ) (hs : ∀ v, al v → al' v) (hb : ∀ v, W v → gOwn g v ≠ o → ∀ u, u ∈ gNxt g v → al' u → al u ∨ T u) : RCert g al' o T W σ :=
  ⟨fun v hv => hs v (h.sub v hv), fun v hv ho => ⟨(h.own v hv ho).1, (h.own v hv ho).2.imp id (fun h => h.elim)⟩, fun v hv ho u hu ha => by
    rcases hb v hv ho u hu ha with hb | hb
    · exact (h.opp v hv ho u hu hb).imp id (fun h => h.elim)
    · exact .inr hb, h.win⟩

abbrev Att (g : DV) (o q : Int) (v : Nat) : Prop := Attr g (wholeF g) o (stuckF g q) v
theorem inS_rest {v : Nat} : inS (restF g) v = true ↔ v < g.length ∧ ¬ Att g 0 1 v ∧ ¬ Att g 1 0 v := by
  unfold restF
  rw [inS_setOf]
  have h1 := inS_zeroF (g := g) (v := v)
  have h2 := inS_oneF (g := g) (v := v)
  simp only [Bool.and_eq_true, decide_eq_true_eq, Bool.not_eq_true']
  rw [← Bool.not_eq_true, ← Bool.not_eq_true, h1, h2]
theorem whole_in {v : Nat} : inS (wholeF g) v = true ↔ v < g.length := by rw [inS_whole]; simp
theorem rest_sym (hoq : (o = 1 ∧ q = 0) ∨ (o = 0 ∧ q = 1)) {v : Nat} : inS (restF g) v = true ↔ v < g.length ∧ ¬ Att g o q v ∧ ¬ Att g q o v := by
  rw [inS_rest]
  rcases hoq with ⟨rfl, rfl⟩ | ⟨rfl, rfl⟩
  · exact ⟨fun h => ⟨h.1, h.2.2, h.2.1⟩, fun h => ⟨h.1, h.2.2, h.2.1⟩⟩
  · exact Iff.rfl

theorem total_rest (how : Owned g) (hs : ∀ v u, u ∈ gNxt g v → u < g.length) : TotalS g (restF g) := by
  intro v hv
  have hvl := (inS_rest.1 hv).1
  have main : ∀ o q : Int, ((o = 1 ∧ q = 0) ∨ (o = 0 ∧ q = 1)) → gOwn g v = o → ∃ u, u ∈ gNxt g v ∧ inS (restF g) u = true := by
    intro o q hoq ho
    obtain ⟨_, h1, h2⟩ := (rest_sym hoq).1 hv
    have hne : gNxt g v ≠ [] := fun e => h2 (.base (by unfold stuckF; rw [inS_setOf]; simp [hvl, ho, e]))
    obtain ⟨u0, hu0⟩ := List.exists_mem_of_ne_nil _ hne
    have hvw : inS (wholeF g) v = true := whole_in.2 hvl
    obtain ⟨u, hu, hu2⟩ : ∃ u, u ∈ gNxt g v ∧ ¬ Att g q o u := Classical.byContradiction fun hc => h2 (.other hvw (by rcases hoq with ⟨rfl, rfl⟩ | ⟨rfl, rfl⟩ <;> omega) hu0 (whole_in.2 (hs _ _ hu0)) fun x hx _ => Classical.byContradiction fun hx' => hc ⟨x, hx, hx'⟩)
    refine ⟨u, hu, (rest_sym hoq).2 ⟨hs _ _ hu, fun hA => h1 (.own hvw ho hu (whole_in.2 (hs _ _ hu)) hA), hu2⟩⟩
  rcases how v hvl with e | e
  · exact main 0 1 (.inr ⟨rfl, rfl⟩) e
  · exact main 1 0 (.inl ⟨rfl, rfl⟩) e

theorem cert_player (how : Owned g) (hs : ∀ v u, u ∈ gNxt g v → u < g.length) (hoq : (o = 1 ∧ q = 0) ∨ (o = 0 ∧ q = 1)) : ∃ σ, Cert g (· < g.length) o (fun v => Att g o q v ∨ Reg g o (restF g) g.length v) σ := by
  have hne : q ≠ o := by omega
  obtain ⟨τ, hU⟩ := Attr.rcert (g := g) (alive := wholeF g) (o := o) (set := stuckF g q) (fun v => stuck_whole) (T := fun v => inS (stuckF g q) v = true) (fun v => Iff.rfl)
  obtain ⟨ρ, hL⟩ := RCert.join (stuck_cert hne) hU
  have hL2 : Cert g (fun v => inS (wholeF g) v = true) o (fun v => Att g o q v) ρ := hL.congr fun v => ⟨fun h => h.elim (fun h => .base h) (fun h => h.1), fun h => by
    cases c : inS (stuckF g q) v with
    | true => exact .inl rfl
    | false => exact .inr ⟨h, rfl⟩⟩
  have hrl : (restF g).length = g.length := setOf_len _ _
  obtain ⟨σ, hR⟩ := region_cert how g.length (restF g) hrl (by have := numS_le (restF g); rw [hrl] at this; exact this) (total_rest how hs) o (by omega)
  obtain ⟨κ, hK⟩ := RCert.join hL2 (hR.relax2 (T := fun v => Att g o q v) (al' := fun v => inS (wholeF g) v = true) (fun v h => whole_in.2 ((inS_rest.1 h).1)) (fun v hv ho u hu ha => by
    obtain ⟨h0, h1, h2⟩ := (rest_sym hoq).1 hv.1
    by_cases c : Att g o q u
    · exact .inr c
    · refine .inl ((rest_sym hoq).2 ⟨hs _ _ hu, c, fun hA => h2 (.own (whole_in.2 h0) ?_ hu ha hA)⟩)
      rcases how v h0 with e | e <;> omega))
  exact ⟨κ, (hK.lift (al' := (· < g.length)) (fun v h => whole_in.1 h) (fun v _ _ u hu ha => whole_in.2 ha))⟩

/-- Vertex v is won by player 1. -/
noncomputable def wonB (g : DV) (v : Nat) : Bool := inS (oneF g) v || (!inS (zeroF g) v && inS (winF g g.length (restF g)) v)
theorem winnersF_won (g : DV) : winnersF g = (List.range g.length).map fun v => if wonB g v then 1 else 0 := rfl
theorem won_true {v : Nat} : (Att g 1 0 v ∨ Reg g 1 (restF g) g.length v) ↔ v < g.length ∧ wonB g v = true := by
  unfold wonB
  rw [Bool.or_eq_true, Bool.and_eq_true, Bool.not_eq_true', inS_oneF]
  constructor
  · rintro (h | h)
    · exact ⟨whole_in.1 (h.sub fun v => stuck_whole), .inl h⟩
    · obtain ⟨a, b, c⟩ := inS_rest.1 h.1
      exact ⟨a, .inr ⟨by rw [← Bool.not_eq_true, inS_zeroF]; exact b, by have := h.2; simpa using this⟩⟩
  · rintro ⟨hv, h | h⟩
    · exact .inl h
    · exact .inr ⟨winF_sub _ _ _ h.2, by rw [h.2]; rfl⟩
theorem won_false {v : Nat} : (Att g 0 1 v ∨ Reg g 0 (restF g) g.length v) ↔ v < g.length ∧ wonB g v = false := by
  constructor
  · rintro (h | h)
    · have h1 : inS (oneF g) v = false := Bool.eq_false_iff.2 fun c => one_not_zero (inS_oneF.1 c) h
      have h2 : inS (zeroF g) v = true := inS_zeroF.2 h
      exact ⟨whole_in.1 (h.sub fun v => stuck_whole), by unfold wonB; rw [h1, h2]; rfl⟩
    · obtain ⟨a, b, c⟩ := inS_rest.1 h.1
      have h1 : inS (oneF g) v = false := Bool.eq_false_iff.2 fun c' => c (inS_oneF.1 c')
      exact ⟨a, by unfold wonB; rw [h1, h.2]; simp⟩
  · rintro ⟨hv, h⟩
    unfold wonB at h
    rw [Bool.or_eq_false_iff] at h
    by_cases c : Att g 0 1 v
    · exact .inl c
    · have h1 : ¬ Att g 1 0 v := fun c' => by have := inS_oneF.2 c'; rw [h.1] at this; cases this
      have h2 : inS (zeroF g) v = false := Bool.eq_false_iff.2 fun c' => c (inS_zeroF.1 c')
      rw [h2] at h
      exact .inr ⟨inS_rest.2 ⟨hv, c, h1⟩, by simpa using h.2⟩

theorem cert_one (how : Owned g) (hs : ∀ v u, u ∈ gNxt g v → u < g.length) : ∃ σ, Cert g (· < g.length) 1 (fun v => v < g.length ∧ wonB g v = true) σ := by
  obtain ⟨σ, h⟩ := cert_player (o := 1) (q := 0) how hs (.inl ⟨rfl, rfl⟩)
  exact ⟨σ, h.congr fun v => won_true⟩
theorem cert_zero (how : Owned g) (hs : ∀ v u, u ∈ gNxt g v → u < g.length) : ∃ σ, Cert g (· < g.length) 0 (fun v => v < g.length ∧ wonB g v = false) σ := by
  obtain ⟨σ, h⟩ := cert_player (o := 0) (q := 1) how hs (.inr ⟨rfl, rfl⟩)
  exact ⟨σ, h.congr fun v => won_false⟩
/-- Whoever has a strategy is the winner. -/
theorem cert_won1 (how : Owned g) (hs : ∀ v u, u ∈ gNxt g v → u < g.length) {W : Nat → Prop} {σ : Nat → Nat} (h : Cert g (· < g.length) 1 W σ) {v : Nat} (hv : W v) : wonB g v = true := by
  obtain ⟨τ, k⟩ := cert_zero how hs
  cases c : wonB g v with
  | true => rfl
  | false => exact (k.apart how h hs ⟨h.sub v hv, c⟩ hv).elim
theorem cert_won0 (how : Owned g) (hs : ∀ v u, u ∈ gNxt g v → u < g.length) {W : Nat → Prop} {σ : Nat → Nat} (h : Cert g (· < g.length) 0 W σ) {v : Nat} (hv : W v) : wonB g v = false := by
  obtain ⟨τ, k⟩ := cert_one how hs
  cases c : wonB g v with
  | false => rfl
  | true => exact (h.apart how k hs hv ⟨h.sub v hv, c⟩).elim

/-- Where one move is left, the vertex has its successor's winner. -/
theorem one_move (how : Owned g) (hs : ∀ v u, u ∈ gNxt g v → u < g.length) {v n : Nat} (hv : v < g.length) (h : gNxt g v = [n]) : wonB g v = wonB g n := by
  have hn : n < g.length := hs v n (by rw [h]; exact List.mem_singleton.2 rfl)
  cases c : wonB g v with
  | true =>
    obtain ⟨σ, k⟩ := cert_one how hs
    have : v < g.length ∧ wonB g v = true := ⟨hv, c⟩
    by_cases ho : gOwn g v = 1
    · obtain ⟨a, b⟩ := k.own v this ho
      rw [h] at a
      have e := List.mem_singleton.1 a
      rw [e] at b
      exact (b.resolve_right id).2.symm
    · exact ((k.opp v this ho n (by rw [h]; exact List.mem_singleton.2 rfl) hn).resolve_right id).2.symm
  | false =>
    obtain ⟨σ, k⟩ := cert_zero how hs
    have : v < g.length ∧ wonB g v = false := ⟨hv, c⟩
    by_cases ho : gOwn g v = 0
    · obtain ⟨a, b⟩ := k.own v this ho
      rw [h] at a
      have e := List.mem_singleton.1 a
      rw [e] at b
      exact (b.resolve_right id).2.symm
    · exact ((k.opp v this ho n (by rw [h]; exact List.mem_singleton.2 rfl) hn).resolve_right id).2.symm

/-- g' is g but for the moves of v, of which n is left. -/
structure Fixed (g g' : DV) (v n : Nat) : Prop where
  len : g'.length = g.length
  own : ∀ u, gOwn g' u = gOwn g u
  pri : ∀ u, gPri g' u = gPri g u
  nxt : ∀ u, u ≠ v → gNxt g' u = gNxt g u
  one : gNxt g' v = [n]
theorem Fixed.cert {g' : DV} {v n : Nat} (h : Fixed g g' v n) (hn : n ∈ gNxt g v) {W : Nat → Prop} {σ : Nat → Nat} (k : Cert g (· < g.length) o W σ) (hσ : W v → gOwn g v = o ∧ σ v = n) : Cert g' (· < g'.length) o W σ := by
  have sub : ∀ u x, x ∈ gNxt g' u → x ∈ gNxt g u := fun u x hx => by
    by_cases e : u = v
    · subst e; rw [h.one] at hx; rw [List.mem_singleton.1 hx]; exact hn
    · rwa [h.nxt u e] at hx
  refine ⟨fun u hu => by rw [h.len]; exact k.sub u hu, fun u hu ho => ?_, fun u hu ho x hx ha => ?_, fun p hp => ?_⟩
  · rw [h.own] at ho
    obtain ⟨a, b⟩ := k.own u hu ho
    refine ⟨?_, b⟩
    by_cases e : u = v
    · subst e; rw [h.one, (hσ hu).2]; exact List.mem_singleton.2 rfl
    · rwa [h.nxt u e]
  · rw [h.own] at ho
    exact k.opp u hu ho x (sub u x hx) (by rw [← h.len]; exact ha)
  · have := k.win p ⟨hp.mem, fun i => sub _ _ (hp.go i), fun i ho => hp.own i (by rw [h.own]; exact ho)⟩
    unfold Good at *
    simp only [h.pri]
    exact this
theorem Fixed.side {g' : DV} {v n : Nat} (h : Fixed g g' v n) (how : Owned g) (hs : ∀ v u, u ∈ gNxt g v → u < g.length) (hn : n ∈ gNxt g v) : Owned g' ∧ ∀ v u, u ∈ gNxt g' v → u < g'.length := by
  refine ⟨fun u hu => by rw [h.own]; exact how u (by rw [← h.len]; exact hu), fun u x hx => ?_⟩
  rw [h.len]
  by_cases e : u = v
  · subst e; rw [h.one] at hx; rw [List.mem_singleton.1 hx]; exact hs _ _ hn
  · rw [h.nxt u e] at hx; exact hs _ _ hx

/-- One of a winner's moves can be fixed, and the winners stay as they are. -/
theorem good_move (how : Owned g) (hs : ∀ v u, u ∈ gNxt g v → u < g.length) {v : Nat} (hv : v < g.length) (hw : gOwn g v = if wonB g v then 1 else 0) :
    ∃ n, n ∈ gNxt g v ∧ wonB g n = wonB g v ∧ ∀ g', Fixed g g' v n → winnersF g' = winnersF g := by
  obtain ⟨σ1, k1⟩ := cert_one how hs
  obtain ⟨σ0, k0⟩ := cert_zero how hs
  have fin : ∀ n, n ∈ gNxt g v → (v < g.length ∧ wonB g v = true → gOwn g v = 1 ∧ σ1 v = n) → (v < g.length ∧ wonB g v = false → gOwn g v = 0 ∧ σ0 v = n) → ∀ g', Fixed g g' v n → winnersF g' = winnersF g := by
    intro n hn c1 c0 g' hF
    obtain ⟨how', hs'⟩ := hF.side how hs hn
    have d1 := hF.cert hn k1 c1
    have d0 := hF.cert hn k0 c0
    rw [winnersF_won, winnersF_won, hF.len]
    apply List.map_congr_left
    intro u hu
    rw [List.mem_range] at hu
    have : wonB g' u = wonB g u := by
      cases e : wonB g u with
      | true => exact cert_won1 how' hs' d1 ⟨hu, e⟩
      | false => exact cert_won0 how' hs' d0 ⟨hu, e⟩
    rw [this]
  cases c : wonB g v with
  | true =>
    rw [c] at hw
    have ho : gOwn g v = 1 := by simpa using hw
    obtain ⟨a, b⟩ := k1.own v ⟨hv, c⟩ ho
    exact ⟨σ1 v, a, (b.resolve_right id).2, fin _ a (fun _ => ⟨ho, rfl⟩) (fun h => by rw [c] at h; cases h.2)⟩
  | false =>
    rw [c] at hw
    have ho : gOwn g v = 0 := by simpa using hw
    obtain ⟨a, b⟩ := k0.own v ⟨hv, c⟩ ho
    exact ⟨σ0 v, a, (b.resolve_right id).2, fin _ a (fun h => by rw [c] at h; cases h.2) (fun _ => ⟨ho, rfl⟩)⟩
end


/-- The moves of a vertex, as they stand in the game. -/
def gRaw (g : DV) (v : Nat) : List Int := (g[v]?.map fun x => x.2.2).getD []
theorem gRaw_at {g : DV} {v : Nat} {o p : Int} {l : List Int} (h : g[v]? = some (o, p, l)) : gRaw g v = l := by unfold gRaw; rw [h]; rfl
theorem gNxt_raw (g : DV) (v : Nat) : gNxt g v = (gRaw g v).map Int.toNat := by
  unfold gNxt gRaw
  cases g[v]? <;> rfl
/-- The moves of v written anew. -/
def putN (g : DV) (v : Nat) (l : List Int) : DV := g.set v (gOwn g v, gPri g v, l)
theorem putN_len (g : DV) (v : Nat) (l : List Int) : (putN g v l).length = g.length := by simp [putN]
theorem putN_self {g : DV} {v : Nat} (hv : v < g.length) (l : List Int) : (putN g v l)[v]? = some (gOwn g v, gPri g v, l) := List.getElem?_set_self hv
theorem putN_ne {g : DV} {v u : Nat} (h : v ≠ u) (l : List Int) : (putN g v l)[u]? = g[u]? := List.getElem?_set_ne h
theorem putN_own (g : DV) (v : Nat) (l : List Int) (u : Nat) : gOwn (putN g v l) u = gOwn g u := by
  by_cases e : v = u
  · subst e
    by_cases hv : v < g.length
    · exact gOwn_at (putN_self hv l)
    · unfold putN; rw [List.set_eq_of_length_le (by omega)]
  · unfold gOwn; rw [putN_ne e]
theorem putN_pri (g : DV) (v : Nat) (l : List Int) (u : Nat) : gPri (putN g v l) u = gPri g u := by
  by_cases e : v = u
  · subst e
    by_cases hv : v < g.length
    · exact gPri_at (putN_self hv l)
    · unfold putN; rw [List.set_eq_of_length_le (by omega)]
  · unfold gPri; rw [putN_ne e]
theorem putN_put (g : DV) (v : Nat) (a b : List Int) : putN (putN g v a) v b = putN g v b := by
  have h1 := putN_own g v a v
  have h2 := putN_pri g v a v
  show (putN g v a).set v (gOwn (putN g v a) v, gPri (putN g v a) v, b) = _
  rw [h1, h2]
  simp [putN]
theorem putN_raw {g : DV} {v : Nat} (hv : v < g.length) : putN g v (gRaw g v) = g := by
  obtain ⟨⟨o, p, l⟩, h⟩ : ∃ x, g[v]? = some x := ⟨_, List.getElem?_eq_getElem hv⟩
  unfold putN
  rw [gOwn_at h, gPri_at h, gRaw_at h]
  apply List.ext_getElem?
  intro u
  by_cases e : v = u
  · subst e; rw [List.getElem?_set_self hv, h]
  · rw [List.getElem?_set_ne e]
theorem putN_fixed {g : DV} {v : Nat} (hv : v < g.length) (n : Int) : Fixed g (putN g v [n]) v n.toNat :=
  ⟨putN_len _ _ _, putN_own _ _ _, putN_pri _ _ _, fun u e => by unfold gNxt; rw [putN_ne (Ne.symm e)], gNxt_at (putN_self hv [n])⟩
theorem GameOk.putN {g : DV} (ok : GameOk g) {v : Nat} (hv : v < g.length) {n : Int} (hn : 0 ≤ n ∧ n < g.length) : GameOk (putN g v [n]) := by
  obtain ⟨⟨o, p, l⟩, h⟩ : ∃ x, g[v]? = some x := ⟨_, List.getElem?_eq_getElem hv⟩
  have h1 := ok.at_ h
  refine ⟨by rw [putN_len]; exact ok.1, fun x hx => ?_⟩
  rw [putN_len]
  rcases List.mem_or_eq_of_mem_set hx with hx | hx
  · exact ok.2 x hx
  · subst hx
    rw [gOwn_at h, gPri_at h]
    exact ⟨h1.1, h1.2.1, fun y hy => by rw [List.mem_singleton.1 hy]; exact hn, List.pairwise_singleton _ _⟩
theorem GameOk.raw {g : DV} (ok : GameOk g) {v : Nat} {n : Int} (h : n ∈ gRaw g v) : v < g.length ∧ 0 ≤ n ∧ n < g.length := by
  by_cases hv : v < g.length
  · obtain ⟨⟨o, p, l⟩, hx⟩ : ∃ x, g[v]? = some x := ⟨_, List.getElem?_eq_getElem hv⟩
    rw [gRaw_at hx] at h
    exact ⟨hv, (ok.at_ hx).2.2.1 n h⟩
  · unfold gRaw at h
    rw [List.getElem?_eq_none (by omega)] at h
    exact (List.not_mem_nil h).elim
theorem GameOk.succ {g : DV} (ok : GameOk g) : ∀ v u, u ∈ gNxt g v → u < g.length := fun v u h => (ok.nxt v).2 u h

/-- The winner of a vertex. -/
noncomputable def wonI (g : DV) (v : Nat) : Int := if wonB g v then 1 else 0
theorem winnersF_at {g : DV} {v : Nat} (hv : v < g.length) : (winnersF g)[v]? = some (wonI g v) := by rw [winnersF_won, List.getElem?_map, List.getElem?_range hv]; rfl
theorem wonI_eq {g g' : DV} (h : winnersF g = winnersF g') (hl : g.length = g'.length) {v : Nat} (hv : v < g.length) : wonI g v = wonI g' v := by
  have h1 := winnersF_at hv
  have h2 := winnersF_at (g := g') (v := v) (by omega)
  rw [h, h2] at h1
  injection h1 with h1
  exact h1.symm
theorem wonI_inj {g : DV} {u v : Nat} (h : wonI g u = wonI g v) : wonB g u = wonB g v := by
  unfold wonI at h
  cases h1 : wonB g u <;> cases h2 : wonB g v <;> simp [h1, h2] at h ⊢

/-- A move of v keeps the winners W if it is fixed. -/
noncomputable def keeps (W : List Int) (g : DV) (v : Nat) (n : Int) : Bool := decide (winnersF (putN g v [n]) = W)
/-- A move into the winner's own region. -/
noncomputable def toOwn (g : DV) (v : Nat) (n : Int) : Bool := decide (wonI g n.toNat = gOwn g v)

theorem keeps_own {g : DV} (ok : GameOk g) {v : Nat} {n : Int} (hn : n ∈ gRaw g v) (hw : gOwn g v = wonI g v) (hk : keeps (winnersF g) g v n = true) : toOwn g v n = true := by
  obtain ⟨hv, h0, h1⟩ := ok.raw hn
  have hk := of_decide_eq_true hk
  have ok' := ok.putN hv ⟨h0, h1⟩
  have hF := putN_fixed hv n
  have e := one_move (g := putN g v [n]) ok'.owned ok'.succ (by rw [putN_len]; exact hv) hF.one
  have e1 := wonI_eq hk (putN_len g v [n]) (v := v) (by rw [putN_len]; exact hv)
  have e2 := wonI_eq hk (putN_len g v [n]) (v := n.toNat) (by rw [putN_len]; omega)
  refine decide_eq_true ?_
  rw [hw, ← e1, ← e2]
  unfold wonI
  rw [e]
theorem keeps_some {g : DV} (ok : GameOk g) {v : Nat} (hv : v < g.length) (hw : gOwn g v = wonI g v) : ∃ n, n ∈ gRaw g v ∧ keeps (winnersF g) g v n = true := by
  obtain ⟨n, hn, _, h⟩ := good_move ok.owned ok.succ hv hw
  rw [gNxt_raw] at hn
  obtain ⟨m, hm, rfl⟩ := List.mem_map.1 hn
  exact ⟨m, hm, decide_eq_true (h _ (putN_fixed hv m))⟩
theorem find_filter {α : Type} {p q : α → Bool} : ∀ (l : List α), (∀ x, x ∈ l → p x = true → q x = true) → (l.filter q).find? p = l.find? p
  | [], _ => rfl
  | x :: l, h => by
    have ih := find_filter l fun y hy => h y (List.mem_cons_of_mem _ hy)
    cases hp : p x with
    | true =>
      rw [List.filter_cons_of_pos (h x (List.mem_cons_self ..) hp), List.find?_cons_of_pos hp, List.find?_cons_of_pos hp]
    | false =>
      rw [List.find?_cons_of_neg (by rw [hp]; simp)]
      cases hq : q x with
      | true => rw [List.filter_cons_of_pos hq, List.find?_cons_of_neg (by rw [hp]; simp), ih]
      | false => rw [List.filter_cons_of_neg (by rw [hq]; simp), ih]

/-- The choice at v, if one is found. -/
noncomputable def pickF (g : DV) (v : Nat) : Option Int := if gOwn g v = wonI g v then (gRaw g v).find? (keeps (winnersF g) g v) else none
theorem pick_own {g : DV} (ok : GameOk g) {v : Nat} (hw : gOwn g v = wonI g v) : pickF g v = ((gRaw g v).filter (toOwn g v)).find? (keeps (winnersF g) g v) := by
  unfold pickF
  rw [if_pos hw]
  exact (find_filter _ fun x hx hp => keeps_own ok hx hw hp).symm
theorem pick_is {g : DV} (ok : GameOk g) {v : Nat} (hv : v < g.length) (hw : gOwn g v = wonI g v) : ∃ n, pickF g v = some n ∧ n ∈ gRaw g v ∧ keeps (winnersF g) g v n = true := by
  obtain ⟨m, hm, hk⟩ := keeps_some ok hv hw
  unfold pickF
  rw [if_pos hw]
  cases c : (gRaw g v).find? (keeps (winnersF g) g v) with
  | none => exact absurd hk (List.find?_eq_none.1 c m hm)
  | some n => exact ⟨n, rfl, List.mem_of_find?_eq_some c, List.find?_some c⟩
theorem find_take_step {α : Type} {p : α → Bool} {l : List α} {k : Nat} {x : α} (h : (l.take k).find? p = none) (hx : l[k]? = some x) (hp : p x = false) : (l.take (k + 1)).find? p = none := by
  rw [List.take_add_one, hx, List.find?_append, h]
  simp [hp]
theorem find_hit {α : Type} {p : α → Bool} {l : List α} {k : Nat} {x : α} (h : (l.take k).find? p = none) (hx : l[k]? = some x) (hp : p x = true) : l.find? p = some x := by
  have : l = l.take k ++ x :: l.drop (k + 1) := by
    rw [← List.take_append_drop k l] 
    congr 1
    · rw [List.take_append_drop]
    · rw [List.take_append_drop]; exact List.drop_eq_getElem?_toList_append.trans (by rw [hx]; rfl)
  rw [this, List.find?_append, h]
  simp [hp]

/-- One vertex. -/
noncomputable def stepF (s : DV × List Int) (k : Nat) : DV × List Int :=
  match pickF s.1 k with
  | some n => (putN s.1 k [n], s.2 ++ [n])
  | none => (s.1, s.2 ++ [-1])
noncomputable def stateK (g : DV) (k : Nat) : DV × List Int := (List.range k).foldl stepF (g, [])
theorem stateK_zero (g : DV) : stateK g 0 = (g, []) := rfl
theorem stateK_succ (g : DV) (k : Nat) : stateK g (k + 1) = stepF (stateK g k) k := by unfold stateK; rw [List.range_succ, List.foldl_append]; rfl
noncomputable def stratF (g : DV) : List Int := (stateK g g.length).2
noncomputable def strategyOfF (g : DV) : List Int × Int := if decide (GameOk g) then (stratF g, 0) else ([], 1)

structure StateOk (g : DV) (s : DV × List Int) (k : Nat) : Prop where
  ok : GameOk s.1
  len : s.1.length = g.length
  win : winnersF s.1 = winnersF g
  own : ∀ u, gOwn s.1 u = gOwn g u
  later : ∀ u, k ≤ u → s.1[u]? = g[u]?
  out : s.2.length = k
theorem stateK_ok {g : DV} (ok : GameOk g) : ∀ k, k ≤ g.length → StateOk g (stateK g k) k
  | 0, _ => ⟨ok, rfl, rfl, fun _ => rfl, fun _ _ => rfl, rfl⟩
  | k + 1, hk => by
    have ih := stateK_ok ok k (by omega)
    rw [stateK_succ]
    unfold stepF
    by_cases hw : gOwn (stateK g k).1 k = wonI (stateK g k).1 k
    · obtain ⟨n, h1, h2, h3⟩ := pick_is ih.ok (by rw [ih.len]; omega) hw
      rw [h1]
      obtain ⟨hv, hb⟩ := ih.ok.raw h2
      exact ⟨ih.ok.putN hv hb, by rw [putN_len]; exact ih.len, by rw [← ih.win]; exact of_decide_eq_true h3, fun u => by rw [putN_own]; exact ih.own u, fun u hu => by rw [putN_ne (by omega)]; exact ih.later u (by omega), by simp [ih.out]⟩
    · have : pickF (stateK g k).1 k = none := by unfold pickF; rw [if_neg hw]
      rw [this]
      exact ⟨ih.ok, ih.len, ih.win, ih.own, fun u hu => ih.later u (by omega), by simp [ih.out]⟩

end Go.Proofs.Ytbnneahjjcamlaa
