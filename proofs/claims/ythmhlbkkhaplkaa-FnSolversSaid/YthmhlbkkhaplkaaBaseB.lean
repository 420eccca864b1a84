/-
  Several texts in one:
  The first choices by which each player wins: what the program and the reference compute, as plain mathematics. Conditions: valid games.
  The laws' helpers on lists of int64: copying, comparing, marking, asking for the marks. Conditions: at most 1048576 numbers.
  From the reading of an argument to the words for memory: slices whose elements are a fixed number of cells without further memory. Conditions: none.
  Slices of the call's own that grow: what they hold, and append from any slice that reads as a list. Conditions: the new length times the element's bytes is at most 2^47.
  Words for slices of slices: the handles in one row, what each handle holds, all rows in different blocks. Conditions: rows of at most 1048576 elements.
  Words for slices whose elements hold a slice each beside other cells (hd tells an element's handle). Conditions: rows of at most 1048576 elements.
  Lists of int64 as fields of a law's arguments, and readings of fields. Conditions: none.
-/
import Derived.Test.YthmhlbkkhaplkaaBaseA
import Derived.Test.YthmhlbkkhaplkaaRows
import Derived.LoopTactic
import Derived.Deep.QuietTactic
import Derived.BigQuiet
import Derived.Deep.Slices
import Derived.Deep.Fields
import Derived.ChangeSame
import Derived.ChangeOld
import Derived.ProofKit
import Derived.Maps.AppendAt
import Derived.Laws.OwnMore
import Derived.OwnWalk
set_option linter.unusedSimpArgs false
set_option linter.unusedVariables false
namespace Go.Proofs.Ythmhlbkkhaplkaa
set_option linter.unusedVariables false

/-- The least priority that comes again and again on an infinite walk is player o's. -/
def GoodP (g : DV) (o : Int) (p : Nat → Nat) : Prop := ∃ m, m % 2 = o ∧ (∀ N, ∃ i, N ≤ i ∧ gPri g (p i) = m) ∧ ∃ N, ∀ i, N ≤ i → m ≤ gPri g (p i)

theorem GoodP.one {g : DV} {o o' : Int} {p : Nat → Nat} (h : GoodP g o p) (h' : GoodP g o' p) : o = o' := by
  obtain ⟨m, e, a, N, b⟩ := h
  obtain ⟨m', e', a', N', b'⟩ := h'
  obtain ⟨i, hi, hm⟩ := a N'
  obtain ⟨j, hj, hm'⟩ := a' N
  have h1 := b' i hi
  have h2 := b j hj
  have : m = m' := by omega
  rw [← e, ← e', this]

theorem GoodP.tail {g : DV} {o : Int} {p : Nat → Nat} (k : Nat) (h : GoodP g o (fun i => p (i + k))) : GoodP g o p := by
  obtain ⟨m, e, a, N, b⟩ := h
  refine ⟨m, e, fun M => ?_, N + k, fun i hi => ?_⟩
  · obtain ⟨i, hi, hm⟩ := a M
    exact ⟨i + k, by omega, hm⟩
  · have := b (i - k) (by omega)
    dsimp only at this
    rwa [Nat.sub_add_cancel (by omega)] at this

/-- An infinite walk within W on which player o moves by σ. -/
structure Play (g : DV) (o : Int) (σ : Nat → Nat) (W : Nat → Prop) (p : Nat → Nat) : Prop where
  mem : ∀ i, W (p i)
  go : ∀ i, p (i + 1) ∈ gNxt g (p i)
  own : ∀ i, gOwn g (p i) = o → p (i + 1) = σ (p i)
theorem Play.tail {g : DV} {o : Int} {σ : Nat → Nat} {W : Nat → Prop} {p : Nat → Nat} (h : Play g o σ W p) (k : Nat) : Play g o σ W (fun i => p (i + k)) :=
  ⟨fun i => h.mem _, fun i => by have := h.go (i + k); rwa [show i + k + 1 = i + 1 + k by omega] at this, fun i ho => by have := h.own (i + k) ho; rwa [show i + k + 1 = i + 1 + k by omega] at this⟩

/-- Player o, moving by σ, keeps within U or goes to T, and wins what stays in U for ever. -/
structure RCert (g : DV) (al : Nat → Prop) (o : Int) (T U : Nat → Prop) (σ : Nat → Nat) : Prop where
  sub : ∀ v, U v → al v
  own : ∀ v, U v → gOwn g v = o → σ v ∈ gNxt g v ∧ (U (σ v) ∨ T (σ v))
  opp : ∀ v, U v → gOwn g v ≠ o → ∀ u, u ∈ gNxt g v → al u → U u ∨ T u
  win : ∀ p, Play g o σ U p → GoodP g o p
/-- Player o wins W among the vertices of al. -/
def Cert (g : DV) (al : Nat → Prop) (o : Int) (W : Nat → Prop) (σ : Nat → Nat) : Prop := RCert g al o (fun _ => False) W σ

theorem RCert.join {g : DV} {al : Nat → Prop} {o : Int} {T U : Nat → Prop} {σ τ : Nat → Nat} (hT : Cert g al o T σ) (hU : RCert g al o T U τ) : ∃ ρ, Cert g al o (fun v => T v ∨ U v) ρ := by
  classical
  refine ⟨fun v => if T v then σ v else τ v, fun v h => ?_, fun v h ho => ?_, fun v h ho u hu ha => ?_, fun p hp => ?_⟩
  · rcases h with h | h
    · exact hT.sub v h
    · exact hU.sub v h
  · by_cases t : T v
    · obtain ⟨a, b⟩ := hT.own v t ho
      rw [if_pos t]
      exact ⟨a, .inl (.inl (b.resolve_right id))⟩
    · obtain ⟨a, b⟩ := hU.own v (h.resolve_left t) ho
      rw [if_neg t]
      exact ⟨a, .inl b.symm⟩
  · left
    by_cases t : T v
    · exact .inl ((hT.opp v t ho u hu ha).resolve_right id)
    · exact (hU.opp v (h.resolve_left t) ho u hu ha).symm
  · by_cases e : ∃ k, T (p k)
    · obtain ⟨k, hk⟩ := e
      have hal : ∀ i, al (p i) := fun i => by rcases hp.mem i with h | h; exact hT.sub _ h; exact hU.sub _ h
      have hall : ∀ i, T (p (i + k)) := by
        intro i
        induction i with
        | zero => rw [Nat.zero_add]; exact hk
        | succ i ih =>
          rw [show i + 1 + k = i + k + 1 by omega]
          by_cases ho : gOwn g (p (i + k)) = o
          · have h1 := hp.own _ ho
            rw [if_pos ih] at h1
            rw [h1]
            exact (hT.own _ ih ho).2.resolve_right id
          · exact (hT.opp _ ih ho _ (hp.go _) (hal _)).resolve_right id
      refine GoodP.tail k (hT.win _ ⟨hall, (hp.tail k).go, fun i ho => ?_⟩)
      have h1 := (hp.tail k).own i ho
      rwa [if_pos (hall i)] at h1
    · refine hU.win p ⟨fun i => (hp.mem i).resolve_left fun t => e ⟨i, t⟩, hp.go, fun i ho => ?_⟩
      have h1 := hp.own i ho
      rwa [if_neg (fun t => e ⟨i, t⟩)] at h1

theorem Cert.congr {g : DV} {al : Nat → Prop} {o : Int} {W W' : Nat → Prop} {σ : Nat → Nat} (h : Cert g al o W σ) (e : ∀ v, W v ↔ W' v) : Cert g al o W' σ := by
  have : W = W' := funext fun v => propext (e v)
  rwa [← this]

/-- No vertex is won by both. -/
theorem Cert.apart {g : DV} (how : Owned g) {W W' : Nat → Prop} {σ τ : Nat → Nat} (h : Cert g (· < g.length) 0 W σ) (k : Cert g (· < g.length) 1 W' τ) (hs : ∀ v u, u ∈ gNxt g v → u < g.length) {v : Nat} (hv : W v) (hv' : W' v) : False := by
  classical
  let step : Nat → Nat := fun v => if gOwn g v = 0 then σ v else τ v
  let p : Nat → Nat := fun i => Nat.rec v (fun _ x => step x) i
  have hp1 : ∀ i, p (i + 1) = step (p i) := fun i => rfl
  have key : ∀ x, W x → W' x → step x ∈ gNxt g x ∧ W (step x) ∧ W' (step x) := by
    intro x hx hx'
    by_cases ho : gOwn g x = 0
    · have e : step x = σ x := if_pos ho
      rw [e]
      obtain ⟨a, b⟩ := h.own x hx ho
      exact ⟨a, b.resolve_right id, (k.opp x hx' (by omega) _ a (hs _ _ a)).resolve_right id⟩
    · have e : step x = τ x := if_neg ho
      rw [e]
      have ho1 : gOwn g x = 1 := (how x (h.sub x hx)).resolve_left ho
      obtain ⟨a, b⟩ := k.own x hx' ho1
      exact ⟨a, (h.opp x hx ho _ a (hs _ _ a)).resolve_right id, b.resolve_right id⟩
  have hall : ∀ i, W (p i) ∧ W' (p i) := by
    intro i
    induction i with
    | zero => exact ⟨hv, hv'⟩
    | succ i ih => rw [hp1]; exact (key _ ih.1 ih.2).2
  have hgo : ∀ i, p (i + 1) ∈ gNxt g (p i) := fun i => by rw [hp1]; exact (key _ (hall i).1 (hall i).2).1
  have g0 := h.win p ⟨fun i => (hall i).1, hgo, fun i ho => by rw [hp1]; exact if_pos ho⟩
  have g1 := k.win p ⟨fun i => (hall i).2, hgo, fun i ho => by rw [hp1]; exact if_neg (by omega)⟩
  have := g0.one g1
  omega

/-- Stages of the attractor. -/
def AttrN (g : DV) (alive : List Bool) (o : Int) (set : List Bool) : Nat → Nat → Prop
  | 0, v => inS set v = true
  | k + 1, v => AttrN g alive o set k v ∨ (inS alive v = true ∧ gOwn g v = o ∧ ∃ u, u ∈ gNxt g v ∧ inS alive u = true ∧ AttrN g alive o set k u) ∨
      (inS alive v = true ∧ gOwn g v ≠ o ∧ (∃ u, u ∈ gNxt g v ∧ inS alive u = true) ∧ ∀ x, x ∈ gNxt g v → inS alive x = true → AttrN g alive o set k x)
section
variable {g : DV} {alive : List Bool} {o : Int} {set : List Bool}
theorem AttrN.mono {k l v : Nat} (h : AttrN g alive o set k v) (hl : k ≤ l) : AttrN g alive o set l v := by
  induction l with
  | zero => have : k = 0 := by omega
            subst this; exact h
  | succ l ih =>
    rcases Nat.lt_or_ge k (l + 1) with h1 | h1
    · exact .inl (ih (by omega))
    · have : k = l + 1 := by omega
      subst this; exact h
theorem AttrN.attr : ∀ {k v : Nat}, AttrN g alive o set k v → Attr g alive o set v
  | 0, v, h => .base h
  | k + 1, v, .inl h => AttrN.attr h
  | k + 1, v, .inr (.inl ⟨a, b, u, c, d, e⟩) => .own a b c d (AttrN.attr e)
  | k + 1, v, .inr (.inr ⟨a, b, ⟨u, c, d⟩, e⟩) => .other a b c d fun x hx ha => AttrN.attr (e x hx ha)
theorem bound_list {Q : Nat → Nat → Prop} (mono : ∀ k l x, k ≤ l → Q k x → Q l x) : ∀ (l : List Nat), (∀ x, x ∈ l → ∃ k, Q k x) → ∃ K, ∀ x, x ∈ l → Q K x
  | [], _ => ⟨0, fun x h => (List.not_mem_nil h).elim⟩
  | y :: l, h => by
    obtain ⟨K, hK⟩ := bound_list mono l fun x hx => h x (List.mem_cons_of_mem _ hx)
    obtain ⟨k, hk⟩ := h y (List.mem_cons_self ..)
    refine ⟨max K k, fun x hx => ?_⟩
    rcases List.mem_cons.1 hx with rfl | hx
    · exact mono k _ _ (Nat.le_max_right _ _) hk
    · exact mono K _ _ (Nat.le_max_left _ _) (hK x hx)
theorem Attr.stage {v : Nat} (h : Attr g alive o set v) : ∃ k, AttrN g alive o set k v := by
  induction h with
  | base h => exact ⟨0, h⟩
  | own a b c d _ ih => obtain ⟨k, hk⟩ := ih; exact ⟨k + 1, .inr (.inl ⟨a, b, _, c, d, hk⟩)⟩
  | @other v u a b c d _ ih =>
    obtain ⟨K, hK⟩ := bound_list (Q := fun k x => inS alive x = true → AttrN g alive o set k x) (fun k l x hl h ha => (h ha).mono hl) (gNxt g v) (fun x hx => by
      by_cases ha : inS alive x = true
      · obtain ⟨k, hk⟩ := ih x hx ha; exact ⟨k, fun _ => hk⟩
      · exact ⟨0, fun h => absurd h ha⟩)
    exact ⟨K + 1, .inr (.inr ⟨a, b, ⟨u, c, d⟩, hK⟩)⟩
theorem least_of {P : Nat → Prop} (h : ∃ k, P k) : ∃ k, P k ∧ ∀ j, j < k → ¬ P j := by
  classical
  obtain ⟨k, hk⟩ := h
  induction k using Nat.strongRecOn with
  | ind k ih =>
    by_cases e : ∃ j, j < k ∧ P j
    · obtain ⟨j, hj, hp⟩ := e; exact ih j hj hp
    · exact ⟨k, hk, fun j hj hp => e ⟨j, hj, hp⟩⟩

/-- The attractor's strategy. -/
theorem Attr.strategy (g : DV) (alive : List Bool) (o : Int) (set : List Bool) : ∃ (τ rk : Nat → Nat),
    (∀ v, Attr g alive o set v → inS set v = false → gOwn g v = o → τ v ∈ gNxt g v ∧ inS alive (τ v) = true ∧ Attr g alive o set (τ v) ∧ rk (τ v) < rk v) ∧
    (∀ v, Attr g alive o set v → inS set v = false → gOwn g v ≠ o → ∀ u, u ∈ gNxt g v → inS alive u = true → Attr g alive o set u ∧ rk u < rk v) := by
  classical
  obtain ⟨rk, hrk⟩ := Classical.axiomOfChoice (show ∀ v, ∃ k, Attr g alive o set v → (AttrN g alive o set k v ∧ ∀ j, j < k → ¬ AttrN g alive o set j v) from fun v => by
    by_cases h : Attr g alive o set v
    · obtain ⟨k, hk⟩ := least_of h.stage; exact ⟨k, fun _ => hk⟩
    · exact ⟨0, fun h' => absurd h' h⟩)
  have low : ∀ u j, AttrN g alive o set j u → rk u ≤ j := fun u j h => Classical.byContradiction fun hn => (hrk u h.attr).2 j (by omega) h
  have step : ∀ v, Attr g alive o set v → inS set v = false → ∃ k, rk v = k + 1 ∧ ((inS alive v = true ∧ gOwn g v = o ∧ ∃ u, u ∈ gNxt g v ∧ inS alive u = true ∧ AttrN g alive o set k u) ∨
      (inS alive v = true ∧ gOwn g v ≠ o ∧ (∃ u, u ∈ gNxt g v ∧ inS alive u = true) ∧ ∀ x, x ∈ gNxt g v → inS alive x = true → AttrN g alive o set k x)) := by
    intro v hv hs
    obtain ⟨h1, h2⟩ := hrk v hv
    cases hk : rk v with
    | zero => rw [hk] at h1; have h1 : inS set v = true := h1; rw [hs] at h1; cases h1
    | succ k =>
      rw [hk] at h1
      rcases h1 with h1 | h1
      · exact absurd h1 (h2 k (by omega))
      · exact ⟨k, rfl, h1⟩
  obtain ⟨τ, hτ⟩ := Classical.axiomOfChoice (show ∀ v, ∃ u, (Attr g alive o set v ∧ inS set v = false ∧ gOwn g v = o) → (u ∈ gNxt g v ∧ inS alive u = true ∧ Attr g alive o set u ∧ rk u < rk v) from fun v => by
    by_cases h : Attr g alive o set v ∧ inS set v = false ∧ gOwn g v = o
    · obtain ⟨k, hk, h1 | h1⟩ := step v h.1 h.2.1
      · obtain ⟨_, _, u, c, d, e⟩ := h1
        exact ⟨u, fun _ => ⟨c, d, e.attr, by have := low u k e; omega⟩⟩
      · exact absurd h.2.2 h1.2.1
    · exact ⟨0, fun h' => absurd h' h⟩)
  refine ⟨τ, rk, fun v a b c => hτ v ⟨a, b, c⟩, fun v a b c u hu ha => ?_⟩
  obtain ⟨k, hk, h1 | h1⟩ := step v a b
  · exact absurd h1.2.1 c
  · have h2 := h1.2.2.2 u hu ha
    exact ⟨h2.attr, by have := low u k h2; omega⟩

/-- What is attracted to T is won with T. -/
theorem Attr.rcert (hs : ∀ v, inS set v = true → inS alive v = true) {T : Nat → Prop} (hT : ∀ v, inS set v = true ↔ T v) : ∃ τ, RCert g (fun v => inS alive v = true) o T (fun v => Attr g alive o set v ∧ inS set v = false) τ := by
  obtain ⟨τ, rk, h1, h2⟩ := Attr.strategy g alive o set
  have side : ∀ u, Attr g alive o set u → (Attr g alive o set u ∧ inS set u = false) ∨ T u := fun u hu => by
    cases h : inS set u with
    | true => exact .inr ((hT u).1 h)
    | false => exact .inl ⟨hu, rfl⟩
  refine ⟨τ, fun v h => h.1.sub hs, fun v h ho => ?_, fun v h ho u hu ha => side u (h2 v h.1 h.2 ho u hu ha).1, fun p hp => ?_⟩
  · obtain ⟨a, b, c, d⟩ := h1 v h.1 h.2 ho
    exact ⟨a, side _ c⟩
  · exfalso
    have down : ∀ i, rk (p (i + 1)) < rk (p i) := fun i => by
      by_cases ho : gOwn g (p i) = o
      · rw [hp.own i ho]; exact (h1 _ (hp.mem i).1 (hp.mem i).2 ho).2.2.2
      · exact (h2 _ (hp.mem i).1 (hp.mem i).2 ho _ (hp.go i) ((hp.mem (i + 1)).1.sub hs)).2
    have low : ∀ i, rk (p i) + i ≤ rk (p 0) := by
      intro i
      induction i with
      | zero => omega
      | succ i ih => have := down i; omega
    have := low (rk (p 0) + 1)
    omega
end


/-- Every vertex that is alive can move to one that is. -/
def TotalS (g : DV) (alive : List Bool) : Prop := ∀ v, inS alive v = true → ∃ u, u ∈ gNxt g v ∧ inS alive u = true
/-- What player o wins among the vertices that are alive. -/
def Reg (g : DV) (o : Int) (alive : List Bool) (f : Nat) (v : Nat) : Prop := inS alive v = true ∧ inS (winF g f alive) v = decide (o = 1)

theorem Cert.empty {g : DV} {al : Nat → Prop} {o : Int} {W : Nat → Prop} (h : ∀ v, ¬ W v) : Cert g al o W id := ⟨fun v hv => absurd hv (h v), fun v hv => absurd hv (h v), fun v hv => absurd hv (h v), fun p hp => absurd (hp.mem 0) (h _)⟩
theorem Cert.lift {g : DV} {al al' : Nat → Prop} {o : Int} {W : Nat → Prop} {σ : Nat → Nat} (h : Cert g al o W σ) (hs : ∀ v, al v → al' v) (hb : ∀ v, W v → gOwn g v ≠ o → ∀ u, u ∈ gNxt g v → al' u → al u) : Cert g al' o W σ :=
  ⟨fun v hv => hs v (h.sub v hv), h.own, fun v hv ho u hu ha => h.opp v hv ho u hu (hb v hv ho u hu ha), h.win⟩
theorem Cert.relax {g : DV} {al al' : Nat → Prop} {o : Int} {T W : Nat → Prop} {σ : Nat → Nat} (h : Cert g al o W σ) (hs : ∀ v, al v → al' v) (hb : ∀ u, al' u → al u ∨ T u) : RCert g al' o T W σ :=
  ⟨fun v hv => hs v (h.sub v hv), fun v hv ho => ⟨(h.own v hv ho).1, (h.own v hv ho).2.imp id (fun h => h.elim)⟩, fun v hv ho u hu ha => by
    rcases hb u ha with hb | hb
    · exact (h.opp v hv ho u hu hb).imp id (fun h => h.elim)
    · exact .inr hb, h.win⟩

section
variable {g : DV} {alive : List Bool} {o : Int} {set : List Bool}
theorem cntT_pos {s : List Bool} {v : Nat} (h : inS s v = true) : 0 < cntT s :=
  Nat.lt_of_le_of_lt (Nat.zero_le _) (cntT_lt (s := setOf s.length fun _ => false) (t := s) (setOf_len _ _) (fun u hu => by rw [inS_setOf] at hu; simp at hu) h (by rw [inS_setOf]; simp))
theorem inS_less (hl : alive.length = g.length) (hs : ∀ v, inS set v = true → inS alive v = true) {v : Nat} : inS (lessF g alive (attrF g alive o set)) v = true ↔ inS alive v = true ∧ ¬ Attr g alive o set v := by
  rw [inS_lessF, ← inS_attrF hl hs]
  constructor
  · intro h
    simp at h
    exact ⟨h.2.1, by rw [h.2.2]; simp⟩
  · intro h
    have hv : v < g.length := by rw [← hl]; exact inS_lt h.1
    simp [hv, h.1]
    simpa using h.2
theorem total_less (hl : alive.length = g.length) (hs : ∀ v, inS set v = true → inS alive v = true) (ht : TotalS g alive) : TotalS g (lessF g alive (attrF g alive o set)) := by
  intro v hv
  rw [inS_less hl hs] at hv
  obtain ⟨ha, hn⟩ := hv
  by_cases ho : gOwn g v = o
  · obtain ⟨u, hu, hua⟩ := ht v ha
    exact ⟨u, hu, (inS_less hl hs).2 ⟨hua, fun h => hn (.own ha ho hu hua h)⟩⟩
  · obtain ⟨u, hu, hua⟩ := ht v ha
    exact Classical.byContradiction fun hc => hn (.other ha ho hu hua fun x hx hxa => Classical.byContradiction fun hx' => hc ⟨x, hx, (inS_less hl hs).2 ⟨hxa, hx'⟩⟩)

theorem leastP_le {d : Int} (hd : leastP g alive = some d) (hl : alive.length = g.length) {v : Nat} (hv : inS alive v = true) : d ≤ gPri g v := by
  have := minK_spec g alive g.length
  rw [leastP_min] at hd
  rw [hd] at this
  exact this.2 v (by rw [← hl]; exact inS_lt hv) hv

/-- All is won where the other player wins nothing of the rest. -/
theorem cert_stop {d : Int} (hl : alive.length = g.length) (hd : leastP g alive = some d) (ht : TotalS g alive) {σ : Nat → Nat} (hR : Cert g (fun v => inS (lessF g alive (aimF g alive d)) v = true) (d % 2) (fun v => inS (lessF g alive (aimF g alive d)) v = true) σ) :
    ∃ ρ, Cert g (fun v => inS alive v = true) (d % 2) (fun v => inS alive v = true) ρ := by
  classical
  have hs : ∀ v, inS (firstF g alive d) v = true → inS alive v = true := fun _ => firstF_sub
  obtain ⟨τ, rk, h1, h2⟩ := Attr.strategy g alive (d % 2) (firstF g alive d)
  obtain ⟨any, hany⟩ := Classical.axiomOfChoice (show ∀ v, ∃ u, inS alive v = true → (u ∈ gNxt g v ∧ inS alive u = true) from fun v => by
    by_cases h : inS alive v = true
    · obtain ⟨u, hu⟩ := ht v h; exact ⟨u, fun _ => hu⟩
    · exact ⟨0, fun h' => absurd h' h⟩)
  have hpri : ∀ v, inS alive v = true → d ≤ gPri g v := by
    intro v hv
    have := leastP_le hd hl hv
    exact this
  have hfirst : ∀ v, inS (firstF g alive d) v = true → gPri g v = d := fun v h => by
    unfold firstF at h
    rw [inS_setOf] at h
    simp at h
    exact h.2.2
  refine ⟨fun v => if inS (firstF g alive d) v = true then any v else if Attr g alive (d % 2) (firstF g alive d) v then τ v else σ v, fun v h => h, fun v h ho => ?_, fun v h ho u hu ha => .inl ha, fun p hp => ?_⟩
  · by_cases c1 : inS (firstF g alive d) v = true
    · rw [if_pos c1]
      exact ⟨(hany v h).1, .inl (hany v h).2⟩
    · rw [if_neg c1]
      by_cases c2 : Attr g alive (d % 2) (firstF g alive d) v
      · rw [if_pos c2]
        have := h1 v c2 (Bool.eq_false_iff.2 c1) ho
        exact ⟨this.1, .inl this.2.1⟩
      · rw [if_neg c2]
        have hv : inS (lessF g alive (aimF g alive d)) v = true := (inS_less hl hs).2 ⟨h, c2⟩
        obtain ⟨a, b⟩ := hR.own v hv ho
        have b := b.resolve_right id
        exact ⟨a, .inl ((inS_less hl hs).1 b).1⟩
  · by_cases e : ∃ N, ∀ i, N ≤ i → ¬ Attr g alive (d % 2) (firstF g alive d) (p i)
    · obtain ⟨N, hN⟩ := e
      refine GoodP.tail N (hR.win _ ⟨fun i => (inS_less hl hs).2 ⟨hp.mem _, hN _ (by omega)⟩, (hp.tail N).go, fun i ho => ?_⟩)
      have h3 := (hp.tail N).own i ho
      have hn := hN (i + N) (by omega)
      rw [if_neg (fun c => hn (.base c)), if_neg hn] at h3
      exact h3
    · have hinf : ∀ N, ∃ i, N ≤ i ∧ Attr g alive (d % 2) (firstF g alive d) (p i) := fun N => Classical.byContradiction fun hc => e ⟨N, fun i hi ha => hc ⟨i, hi, ha⟩⟩
      have reach : ∀ k i, rk (p i) ≤ k → Attr g alive (d % 2) (firstF g alive d) (p i) → ∃ j, i ≤ j ∧ inS (firstF g alive d) (p j) = true := by
        intro k
        induction k with
        | zero =>
          intro i hk ha
          cases c : inS (firstF g alive d) (p i) with
          | true => exact ⟨i, Nat.le_refl _, c⟩
          | false =>
            exfalso
            by_cases ho : gOwn g (p i) = d % 2
            · have := (h1 _ ha c ho).2.2.2; omega
            · have := (h2 _ ha c ho _ (hp.go i) (hp.mem _)).2; omega
        | succ k ih =>
          intro i hk ha
          cases c : inS (firstF g alive d) (p i) with
          | true => exact ⟨i, Nat.le_refl _, c⟩
          | false =>
            have hnext : Attr g alive (d % 2) (firstF g alive d) (p (i + 1)) ∧ rk (p (i + 1)) < rk (p i) := by
              by_cases ho : gOwn g (p i) = d % 2
              · have h3 := hp.own i ho
                rw [if_neg (by rw [c]; simp), if_pos ha] at h3
                rw [h3]
                exact ⟨(h1 _ ha c ho).2.2.1, (h1 _ ha c ho).2.2.2⟩
              · exact h2 _ ha c ho _ (hp.go i) (hp.mem _)
            obtain ⟨j, hj, hc⟩ := ih (i + 1) (by omega) hnext.1
            exact ⟨j, by omega, hc⟩
      refine ⟨d, rfl, fun N => ?_, 0, fun i _ => hpri _ (hp.mem i)⟩
      obtain ⟨i, hi, ha⟩ := hinf N
      obtain ⟨j, hj, hc⟩ := reach _ i (Nat.le_refl _) ha
      exact ⟨j, by omega, hfirst _ hc⟩

/-- One step of the recursion. -/
theorem region_cert (how : Owned g) : ∀ (f : Nat) (alive : List Bool), alive.length = g.length → cntT alive ≤ f → TotalS g alive → ∀ o : Int, (o = 0 ∨ o = 1) → ∃ σ, Cert g (fun v => inS alive v = true) o (Reg g o alive f) σ := by
  intro f
  induction f with
  | zero =>
    intro alive hl hn ht o ho
    exact ⟨id, Cert.empty fun v h => by have := cntT_pos h.1; omega⟩
  | succ f ih =>
    intro alive hl hn ht o ho
    cases hd : leastP g alive with
    | none => exact ⟨id, Cert.empty fun v h => by have := leastP_no hd hl v; have h1 := h.1; rw [this] at h1; cases h1⟩
    | some d =>
      have hfs : ∀ v, inS (firstF g alive d) v = true → inS alive v = true := fun _ => firstF_sub
      have hRt : TotalS g (lessF g alive (aimF g alive d)) := total_less hl hfs ht
      have hRl : (lessF g alive (aimF g alive d)).length = g.length := setOf_len _ _
      have hRn : cntT (lessF g alive (aimF g alive d)) ≤ f := by have := rest_lt hl hd; omega
      have ihR := ih _ hRl hRn hRt
      have hRin : ∀ v, inS (lessF g alive (aimF g alive d)) v = true ↔ inS alive v = true ∧ ¬ Attr g alive (d % 2) (firstF g alive d) v := fun v => inS_less hl hfs
      have hlt : ∀ v, inS alive v = true → v < g.length := fun v h => by rw [← hl]; exact inS_lt h
      have hdp : d % 2 = 0 ∨ d % 2 = 1 := by omega
      cases hany : anyS (otherF g (lessF g alive (aimF g alive d)) (winF g f (lessF g alive (aimF g alive d))) (d % 2)) with
      | false =>
        have hw := winF_stop hd hany
        have hin : ∀ v, inS alive v = true → inS (winF g (f + 1) alive) v = decide (d % 2 = 1) := fun v h => by rw [hw, inS_setOf]; simp [hlt v h, h]
        by_cases hod : o = d % 2
        · subst hod
          have hno : ∀ v, inS (lessF g alive (aimF g alive d)) v = true → inS (winF g f (lessF g alive (aimF g alive d))) v = decide (d % 2 = 1) := by
            intro v hv
            cases c : inS (otherF g (lessF g alive (aimF g alive d)) (winF g f (lessF g alive (aimF g alive d))) (d % 2)) v with
            | true => rw [anyS_of (by rw [otherF_len]; exact hlt v ((hRin v).1 hv).1) c] at hany; cases hany
            | false =>
              unfold otherF at c
              rw [inS_setOf] at c
              simpa [hlt v ((hRin v).1 hv).1, hv] using c
          obtain ⟨σ, hσ⟩ := ihR (d % 2) ho
          obtain ⟨ρ, hρ⟩ := cert_stop hl hd ht (hσ.congr fun v => ⟨fun h => h.1, fun h => ⟨h, hno v h⟩⟩)
          exact ⟨ρ, hρ.congr fun v => ⟨fun h => ⟨h, hin v h⟩, fun h => h.1⟩⟩
        · refine ⟨id, Cert.empty fun v h => ?_⟩
          have h1 := hin v h.1
          rw [h.2] at h1
          rcases ho with rfl | rfl <;> rcases hdp with e | e <;> simp [e] at h1 hod
      | true =>
        have hw := winF_go hd hany
        have hln := lost_lt (p2 := 1 - d % 2) hl hany
        dsimp only at hw
        generalize hot : otherF g (lessF g alive (aimF g alive d)) (winF g f (lessF g alive (aimF g alive d))) (d % 2) = ot at *
        have hots : ∀ v, inS ot v = true → inS alive v = true := fun v h => by rw [← hot] at h; exact otherF_sub h
        have hlin : ∀ v, inS (attrF g alive (1 - d % 2) ot) v = true ↔ Attr g alive (1 - d % 2) ot v := fun v => inS_attrF hl hots
        have hR2t : TotalS g (lessF g alive (attrF g alive (1 - d % 2) ot)) := total_less hl hots ht
        have hR2in : ∀ v, inS (lessF g alive (attrF g alive (1 - d % 2) ot)) v = true ↔ inS alive v = true ∧ ¬ Attr g alive (1 - d % 2) ot v := fun v => inS_less hl hots
        have ih2 := ih (lessF g alive (attrF g alive (1 - d % 2) ot)) (setOf_len _ _) (by omega) hR2t
        -- the other player's part of the rest is won among all
        have hotv : ∀ v, inS ot v = true ↔ Reg g (1 - d % 2) (lessF g alive (aimF g alive d)) f v := by
          intro v
          rw [← hot]
          unfold otherF Reg
          rw [inS_setOf]
          constructor
          · intro h
            simp only [Bool.and_eq_true, decide_eq_true_eq] at h
            refine ⟨h.2.1, ?_⟩
            have h2 := h.2.2
            rcases hdp with e | e <;> rw [e] at h2 ⊢ <;> simpa using h2
          · intro h
            simp only [Bool.and_eq_true, decide_eq_true_eq]
            refine ⟨hlt v ((hRin v).1 h.1).1, h.1, ?_⟩
            rw [h.2]
            rcases hdp with e | e <;> rw [e] <;> decide
        obtain ⟨σ, hσ⟩ := ihR (1 - d % 2) (by omega)
        have hT : Cert g (fun v => inS alive v = true) (1 - d % 2) (fun v => inS ot v = true) σ := (hσ.lift (fun v h => ((hRin v).1 h).1) (fun v hv ho' u hu ha => by
          have hva := (hRin v).1 hv.1
          refine (hRin u).2 ⟨ha, fun hau => hva.2 (.own hva.1 ?_ hu ha hau)⟩
          rcases how v (hlt v hva.1) with e | e <;> omega)).congr fun v => (hotv v).symm
        obtain ⟨τ, hU⟩ := Attr.rcert (o := 1 - d % 2) hots (T := fun v => inS ot v = true) (fun v => Iff.rfl)
        obtain ⟨ρ, hL⟩ := RCert.join hT hU
        have hL2 : Cert g (fun v => inS alive v = true) (1 - d % 2) (fun v => Attr g alive (1 - d % 2) ot v) ρ := hL.congr fun v => ⟨fun h => h.elim (fun h => .base h) (fun h => h.1), fun h => by
          cases c : inS ot v with
          | true => exact .inl rfl
          | false => exact .inr ⟨h, rfl⟩⟩
        have hwin : ∀ v, inS alive v = true → inS (winF g (f + 1) alive) v = ((inS (attrF g alive (1 - d % 2) ot) v && decide (d % 2 = 0)) || (!inS (attrF g alive (1 - d % 2) ot) v && inS (winF g f (lessF g alive (attrF g alive (1 - d % 2) ot))) v)) := fun v h => by
          rw [hw, inS_setOf]; simp [hlt v h, h]
        by_cases hod : o = d % 2
        · obtain ⟨σ2, h2⟩ := ih2 o ho
          refine ⟨σ2, (h2.lift (fun v h => ((hR2in v).1 h).1) (fun v hv ho' u hu ha => ?_)).congr fun v => ⟨fun h => ?_, fun h => ?_⟩⟩
          · have hva := (hR2in v).1 hv.1
            refine (hR2in u).2 ⟨ha, fun hau => hva.2 (.own hva.1 ?_ hu ha hau)⟩
            rcases how v (hlt v hva.1) with e | e <;> omega
          · have hva := (hR2in v).1 h.1
            refine ⟨hva.1, ?_⟩
            rw [hwin v hva.1, show inS (attrF g alive (1 - d % 2) ot) v = false from Bool.eq_false_iff.2 fun c => hva.2 ((hlin v).1 c), h.2]
            simp
          · have h1 := hwin v h.1
            rw [h.2] at h1
            cases c : inS (attrF g alive (1 - d % 2) ot) v with
            | true =>
              exfalso
              rw [c, hod] at h1
              rcases hdp with e | e <;> rw [e] at h1 <;> simp at h1
            | false =>
              rw [c] at h1
              refine ⟨(hR2in v).2 ⟨h.1, fun ha => ?_⟩, by simpa using h1.symm⟩
              rw [(hlin v).2 ha] at c; cases c
        · have hoq : o = 1 - d % 2 := by omega
          obtain ⟨σ2, h2⟩ := ih2 o ho
          rw [← hoq] at hL2
          obtain ⟨ρ2, h3⟩ := RCert.join hL2 (h2.relax (T := fun v => Attr g alive o ot v) (al' := fun v => inS alive v = true) (fun v h => ((hR2in v).1 h).1) (fun u ha => by
            by_cases c : Attr g alive o ot u
            · exact .inr c
            · exact .inl ((hR2in u).2 ⟨ha, by rw [← hoq]; exact c⟩)))
          refine ⟨ρ2, h3.congr fun v => ⟨fun h => ?_, fun h => ?_⟩⟩
          · rcases h with h | h
            · have ha := h.sub hots
              refine ⟨ha, ?_⟩
              rw [hwin v ha, (hlin v).2 (by rw [← hoq]; exact h), hoq]
              rcases hdp with e | e <;> rw [e] <;> simp
            · have hva := (hR2in v).1 h.1
              refine ⟨hva.1, ?_⟩
              rw [hwin v hva.1, show inS (attrF g alive (1 - d % 2) ot) v = false from Bool.eq_false_iff.2 fun c => hva.2 ((hlin v).1 c), h.2]
              simp
          · by_cases c : Attr g alive o ot v
            · exact .inl c
            · right
              have h1 := hwin v h.1
              rw [h.2, show inS (attrF g alive (1 - d % 2) ot) v = false from Bool.eq_false_iff.2 fun c' => c (by rw [hoq]; exact (hlin v).1 c')] at h1
              exact ⟨(hR2in v).2 ⟨h.1, by rw [← hoq]; exact c⟩, by simpa using h1.symm⟩
end


section
variable {g : DV} {o q : Int}
theorem stuck_cert (hoq : q ≠ o) : Cert g (fun v => inS (wholeF g) v = true) o (fun v => inS (stuckF g q) v = true) id :=
  ⟨fun v h => stuck_whole h, fun v h ho => absurd ((inS_stuck h).1.symm.trans ho) hoq, fun v h _ u hu => by rw [(inS_stuck h).2] at hu; exact (List.not_mem_nil hu).elim, fun p hp => by
    have := hp.go 0
    rw [(inS_stuck (hp.mem 0)).2] at this
    exact (List.not_mem_nil this).elim⟩
theorem Cert.relax2 {al al' : Nat → Prop} {T W : Nat → Prop} {σ : Nat → Nat} (h : Cert g al o W σ) (hs : ∀ v, al v → al' v) (hb : ∀ v, W v → gOwn g v ≠ o → ∀ u, u ∈ gNxt g v → al' u → al u ∨ T u) : RCert g al' o T W σ :=
  ⟨fun v hv => hs v (h.sub v hv), fun v hv ho => ⟨(h.own v hv ho).1, (h.own v hv ho).2.imp id (fun h => h.elim)⟩, fun v hv ho u hu ha => by
    rcases hb v hv ho u hu ha with hb | hb
    · exact (h.opp v hv ho u hu hb).imp id (fun h => h.elim)
    · exact .inr hb, h.win⟩

abbrev Att (g : DV) (o q : Int) (v : Nat) : Prop := Attr g (wholeF g) o (stuckF g q) v
theorem inS_rest {v : Nat} : inS (restF g) v = true ↔ v < g.length ∧ ¬ Att g 0 1 v ∧ ¬ Att g 1 0 v := by
  unfold restF
  rw [inS_setOf]
  have h1 := inS_zeroF (g := g) (v := v)
  have h2 := inS_oneF (g := g) (v := v)
  simp only [Bool.and_eq_true, decide_eq_true_eq, Bool.not_eq_true']
  rw [← Bool.not_eq_true, ← Bool.not_eq_true, h1, h2]
theorem whole_in {v : Nat} : inS (wholeF g) v = true ↔ v < g.length := by rw [inS_whole]; simp
theorem rest_sym (hoq : (o = 1 ∧ q = 0) ∨ (o = 0 ∧ q = 1)) {v : Nat} : inS (restF g) v = true ↔ v < g.length ∧ ¬ Att g o q v ∧ ¬ Att g q o v := by
  rw [inS_rest]
  rcases hoq with ⟨rfl, rfl⟩ | ⟨rfl, rfl⟩
  · exact ⟨fun h => ⟨h.1, h.2.2, h.2.1⟩, fun h => ⟨h.1, h.2.2, h.2.1⟩⟩
  · exact Iff.rfl

theorem total_rest (how : Owned g) (hs : ∀ v u, u ∈ gNxt g v → u < g.length) : TotalS g (restF g) := by
  intro v hv
  have hvl := (inS_rest.1 hv).1
  have main : ∀ o q : Int, ((o = 1 ∧ q = 0) ∨ (o = 0 ∧ q = 1)) → gOwn g v = o → ∃ u, u ∈ gNxt g v ∧ inS (restF g) u = true := by
    intro o q hoq ho
    obtain ⟨_, h1, h2⟩ := (rest_sym hoq).1 hv
    have hne : gNxt g v ≠ [] := fun e => h2 (.base (by unfold stuckF; rw [inS_setOf]; simp [hvl, ho, e]))
    obtain ⟨u0, hu0⟩ := List.exists_mem_of_ne_nil _ hne
    have hvw : inS (wholeF g) v = true := whole_in.2 hvl
    obtain ⟨u, hu, hu2⟩ : ∃ u, u ∈ gNxt g v ∧ ¬ Att g q o u := Classical.byContradiction fun hc => h2 (.other hvw (by rcases hoq with ⟨rfl, rfl⟩ | ⟨rfl, rfl⟩ <;> omega) hu0 (whole_in.2 (hs _ _ hu0)) fun x hx _ => Classical.byContradiction fun hx' => hc ⟨x, hx, hx'⟩)
    refine ⟨u, hu, (rest_sym hoq).2 ⟨hs _ _ hu, fun hA => h1 (.own hvw ho hu (whole_in.2 (hs _ _ hu)) hA), hu2⟩⟩
  rcases how v hvl with e | e
  · exact main 0 1 (.inr ⟨rfl, rfl⟩) e
  · exact main 1 0 (.inl ⟨rfl, rfl⟩) e

theorem cert_player (how : Owned g) (hs : ∀ v u, u ∈ gNxt g v → u < g.length) (hoq : (o = 1 ∧ q = 0) ∨ (o = 0 ∧ q = 1)) : ∃ σ, Cert g (· < g.length) o (fun v => Att g o q v ∨ Reg g o (restF g) g.length v) σ := by
  have hne : q ≠ o := by omega
  obtain ⟨τ, hU⟩ := Attr.rcert (g := g) (alive := wholeF g) (o := o) (set := stuckF g q) (fun v => stuck_whole) (T := fun v => inS (stuckF g q) v = true) (fun v => Iff.rfl)
  obtain ⟨ρ, hL⟩ := RCert.join (stuck_cert hne) hU
  have hL2 : Cert g (fun v => inS (wholeF g) v = true) o (fun v => Att g o q v) ρ := hL.congr fun v => ⟨fun h => h.elim (fun h => .base h) (fun h => h.1), fun h => by
    cases c : inS (stuckF g q) v with
    | true => exact .inl rfl
    | false => exact .inr ⟨h, rfl⟩⟩
  have hrl : (restF g).length = g.length := setOf_len _ _
  obtain ⟨σ, hR⟩ := region_cert how g.length (restF g) hrl (by have := cntT_le (restF g); rw [hrl] at this; exact this) (total_rest how hs) o (by omega)
  obtain ⟨κ, hK⟩ := RCert.join hL2 (hR.relax2 (T := fun v => Att g o q v) (al' := fun v => inS (wholeF g) v = true) (fun v h => whole_in.2 ((inS_rest.1 h).1)) (fun v hv ho u hu ha => by
    obtain ⟨h0, h1, h2⟩ := (rest_sym hoq).1 hv.1
    by_cases c : Att g o q u
    · exact .inr c
    · refine .inl ((rest_sym hoq).2 ⟨hs _ _ hu, c, fun hA => h2 (.own (whole_in.2 h0) ?_ hu ha hA)⟩)
      rcases how v h0 with e | e <;> omega))
  exact ⟨κ, (hK.lift (al' := (· < g.length)) (fun v h => whole_in.1 h) (fun v _ _ u hu ha => whole_in.2 ha))⟩

/-- Vertex v is won by player 1. -/
noncomputable def wonB (g : DV) (v : Nat) : Bool := inS (oneF g) v || (!inS (zeroF g) v && inS (winF g g.length (restF g)) v)
theorem winnersF_won (g : DV) : winnersF g = (List.range g.length).map fun v => if wonB g v then 1 else 0 := rfl
theorem won_true {v : Nat} : (Att g 1 0 v ∨ Reg g 1 (restF g) g.length v) ↔ v < g.length ∧ wonB g v = true := by
  unfold wonB
  rw [Bool.or_eq_true, Bool.and_eq_true, Bool.not_eq_true', inS_oneF]
  constructor
  · rintro (h | h)
    · exact ⟨whole_in.1 (h.sub fun v => stuck_whole), .inl h⟩
    · obtain ⟨a, b, c⟩ := inS_rest.1 h.1
      exact ⟨a, .inr ⟨by rw [← Bool.not_eq_true, inS_zeroF]; exact b, by have := h.2; simpa using this⟩⟩
  · rintro ⟨hv, h | h⟩
    · exact .inl h
    · exact .inr ⟨winF_sub _ _ _ h.2, by rw [h.2]; rfl⟩
theorem won_false {v : Nat} : (Att g 0 1 v ∨ Reg g 0 (restF g) g.length v) ↔ v < g.length ∧ wonB g v = false := by
  constructor
  · rintro (h | h)
    · have h1 : inS (oneF g) v = false := Bool.eq_false_iff.2 fun c => one_not_zero (inS_oneF.1 c) h
      have h2 : inS (zeroF g) v = true := inS_zeroF.2 h
      exact ⟨whole_in.1 (h.sub fun v => stuck_whole), by unfold wonB; rw [h1, h2]; rfl⟩
    · obtain ⟨a, b, c⟩ := inS_rest.1 h.1
      have h1 : inS (oneF g) v = false := Bool.eq_false_iff.2 fun c' => c (inS_oneF.1 c')
      exact ⟨a, by unfold wonB; rw [h1, h.2]; simp⟩
  · rintro ⟨hv, h⟩
    unfold wonB at h
    rw [Bool.or_eq_false_iff] at h
    by_cases c : Att g 0 1 v
    · exact .inl c
    · have h1 : ¬ Att g 1 0 v := fun c' => by have := inS_oneF.2 c'; rw [h.1] at this; cases this
      have h2 : inS (zeroF g) v = false := Bool.eq_false_iff.2 fun c' => c (inS_zeroF.1 c')
      rw [h2] at h
      exact .inr ⟨inS_rest.2 ⟨hv, c, h1⟩, by simpa using h.2⟩

theorem cert_one (how : Owned g) (hs : ∀ v u, u ∈ gNxt g v → u < g.length) : ∃ σ, Cert g (· < g.length) 1 (fun v => v < g.length ∧ wonB g v = true) σ := by
  obtain ⟨σ, h⟩ := cert_player (o := 1) (q := 0) how hs (.inl ⟨rfl, rfl⟩)
  exact ⟨σ, h.congr fun v => won_true⟩
theorem cert_zero (how : Owned g) (hs : ∀ v u, u ∈ gNxt g v → u < g.length) : ∃ σ, Cert g (· < g.length) 0 (fun v => v < g.length ∧ wonB g v = false) σ := by
  obtain ⟨σ, h⟩ := cert_player (o := 0) (q := 1) how hs (.inr ⟨rfl, rfl⟩)
  exact ⟨σ, h.congr fun v => won_false⟩
/-- Whoever has a strategy is the winner. -/
theorem cert_won1 (how : Owned g) (hs : ∀ v u, u ∈ gNxt g v → u < g.length) {W : Nat → Prop} {σ : Nat → Nat} (h : Cert g (· < g.length) 1 W σ) {v : Nat} (hv : W v) : wonB g v = true := by
  obtain ⟨τ, k⟩ := cert_zero how hs
  cases c : wonB g v with
  | true => rfl
  | false => exact (k.apart how h hs ⟨h.sub v hv, c⟩ hv).elim
theorem cert_won0 (how : Owned g) (hs : ∀ v u, u ∈ gNxt g v → u < g.length) {W : Nat → Prop} {σ : Nat → Nat} (h : Cert g (· < g.length) 0 W σ) {v : Nat} (hv : W v) : wonB g v = false := by
  obtain ⟨τ, k⟩ := cert_one how hs
  cases c : wonB g v with
  | false => rfl
  | true => exact (h.apart how k hs hv ⟨h.sub v hv, c⟩).elim

/-- Where one move is left, the vertex has its successor's winner. -/
theorem one_move (how : Owned g) (hs : ∀ v u, u ∈ gNxt g v → u < g.length) {v n : Nat} (hv : v < g.length) (h : gNxt g v = [n]) : wonB g v = wonB g n := by
  have hn : n < g.length := hs v n (by rw [h]; exact List.mem_singleton.2 rfl)
  cases c : wonB g v with
  | true =>
    obtain ⟨σ, k⟩ := cert_one how hs
    have : v < g.length ∧ wonB g v = true := ⟨hv, c⟩
    by_cases ho : gOwn g v = 1
    · obtain ⟨a, b⟩ := k.own v this ho
      rw [h] at a
      have e := List.mem_singleton.1 a
      rw [e] at b
      exact (b.resolve_right id).2.symm
    · exact ((k.opp v this ho n (by rw [h]; exact List.mem_singleton.2 rfl) hn).resolve_right id).2.symm
  | false =>
    obtain ⟨σ, k⟩ := cert_zero how hs
    have : v < g.length ∧ wonB g v = false := ⟨hv, c⟩
    by_cases ho : gOwn g v = 0
    · obtain ⟨a, b⟩ := k.own v this ho
      rw [h] at a
      have e := List.mem_singleton.1 a
      rw [e] at b
      exact (b.resolve_right id).2.symm
    · exact ((k.opp v this ho n (by rw [h]; exact List.mem_singleton.2 rfl) hn).resolve_right id).2.symm

/-- g' is g but for the moves of v, of which n is left. -/
structure Fixed (g g' : DV) (v n : Nat) : Prop where
  len : g'.length = g.length
  own : ∀ u, gOwn g' u = gOwn g u
  pri : ∀ u, gPri g' u = gPri g u
  nxt : ∀ u, u ≠ v → gNxt g' u = gNxt g u
  one : gNxt g' v = [n]
theorem Fixed.cert {g' : DV} {v n : Nat} (h : Fixed g g' v n) (hn : n ∈ gNxt g v) {W : Nat → Prop} {σ : Nat → Nat} (k : Cert g (· < g.length) o W σ) (hσ : W v → gOwn g v = o ∧ σ v = n) : Cert g' (· < g'.length) o W σ := by
  have sub : ∀ u x, x ∈ gNxt g' u → x ∈ gNxt g u := fun u x hx => by
    by_cases e : u = v
    · subst e; rw [h.one] at hx; rw [List.mem_singleton.1 hx]; exact hn
    · rwa [h.nxt u e] at hx
  refine ⟨fun u hu => by rw [h.len]; exact k.sub u hu, fun u hu ho => ?_, fun u hu ho x hx ha => ?_, fun p hp => ?_⟩
  · rw [h.own] at ho
    obtain ⟨a, b⟩ := k.own u hu ho
    refine ⟨?_, b⟩
    by_cases e : u = v
    · subst e; rw [h.one, (hσ hu).2]; exact List.mem_singleton.2 rfl
    · rwa [h.nxt u e]
  · rw [h.own] at ho
    exact k.opp u hu ho x (sub u x hx) (by rw [← h.len]; exact ha)
  · have := k.win p ⟨hp.mem, fun i => sub _ _ (hp.go i), fun i ho => hp.own i (by rw [h.own]; exact ho)⟩
    unfold GoodP at *
    simp only [h.pri]
    exact this
theorem Fixed.side {g' : DV} {v n : Nat} (h : Fixed g g' v n) (how : Owned g) (hs : ∀ v u, u ∈ gNxt g v → u < g.length) (hn : n ∈ gNxt g v) : Owned g' ∧ ∀ v u, u ∈ gNxt g' v → u < g'.length := by
  refine ⟨fun u hu => by rw [h.own]; exact how u (by rw [← h.len]; exact hu), fun u x hx => ?_⟩
  rw [h.len]
  by_cases e : u = v
  · subst e; rw [h.one] at hx; rw [List.mem_singleton.1 hx]; exact hs _ _ hn
  · rw [h.nxt u e] at hx; exact hs _ _ hx

/-- One of a winner's moves can be fixed, and the winners stay as they are. -/
theorem good_move (how : Owned g) (hs : ∀ v u, u ∈ gNxt g v → u < g.length) {v : Nat} (hv : v < g.length) (hw : gOwn g v = if wonB g v then 1 else 0) :
    ∃ n, n ∈ gNxt g v ∧ wonB g n = wonB g v ∧ ∀ g', Fixed g g' v n → winnersF g' = winnersF g := by
  obtain ⟨σ1, k1⟩ := cert_one how hs
  obtain ⟨σ0, k0⟩ := cert_zero how hs
  have fin : ∀ n, n ∈ gNxt g v → (v < g.length ∧ wonB g v = true → gOwn g v = 1 ∧ σ1 v = n) → (v < g.length ∧ wonB g v = false → gOwn g v = 0 ∧ σ0 v = n) → ∀ g', Fixed g g' v n → winnersF g' = winnersF g := by
    intro n hn c1 c0 g' hF
    obtain ⟨how', hs'⟩ := hF.side how hs hn
    have d1 := hF.cert hn k1 c1
    have d0 := hF.cert hn k0 c0
    rw [winnersF_won, winnersF_won, hF.len]
    apply List.map_congr_left
    intro u hu
    rw [List.mem_range] at hu
    have : wonB g' u = wonB g u := by
      cases e : wonB g u with
      | true => exact cert_won1 how' hs' d1 ⟨hu, e⟩
      | false => exact cert_won0 how' hs' d0 ⟨hu, e⟩
    rw [this]
  cases c : wonB g v with
  | true =>
    rw [c] at hw
    have ho : gOwn g v = 1 := by simpa using hw
    obtain ⟨a, b⟩ := k1.own v ⟨hv, c⟩ ho
    exact ⟨σ1 v, a, (b.resolve_right id).2, fin _ a (fun _ => ⟨ho, rfl⟩) (fun h => by rw [c] at h; cases h.2)⟩
  | false =>
    rw [c] at hw
    have ho : gOwn g v = 0 := by simpa using hw
    obtain ⟨a, b⟩ := k0.own v ⟨hv, c⟩ ho
    exact ⟨σ0 v, a, (b.resolve_right id).2, fin _ a (fun h => by rw [c] at h; cases h.2) (fun _ => ⟨ho, rfl⟩)⟩
end


/-- The moves of a vertex, as they stand in the game. -/
def gRaw (g : DV) (v : Nat) : List Int := (g[v]?.map fun x => x.2.2).getD []
theorem gRaw_at {g : DV} {v : Nat} {o p : Int} {l : List Int} (h : g[v]? = some (o, p, l)) : gRaw g v = l := by unfold gRaw; rw [h]; rfl
theorem gNxt_raw (g : DV) (v : Nat) : gNxt g v = (gRaw g v).map Int.toNat := by
  unfold gNxt gRaw
  cases g[v]? <;> rfl
/-- The moves of v written anew. -/
def putN (g : DV) (v : Nat) (l : List Int) : DV := g.set v (gOwn g v, gPri g v, l)
theorem putN_len (g : DV) (v : Nat) (l : List Int) : (putN g v l).length = g.length := by simp [putN]
theorem putN_self {g : DV} {v : Nat} (hv : v < g.length) (l : List Int) : (putN g v l)[v]? = some (gOwn g v, gPri g v, l) := List.getElem?_set_self hv
theorem putN_ne {g : DV} {v u : Nat} (h : v ≠ u) (l : List Int) : (putN g v l)[u]? = g[u]? := List.getElem?_set_ne h
theorem putN_own (g : DV) (v : Nat) (l : List Int) (u : Nat) : gOwn (putN g v l) u = gOwn g u := by
  by_cases e : v = u
  · subst e
    by_cases hv : v < g.length
    · exact gOwn_at (putN_self hv l)
    · unfold putN; rw [List.set_eq_of_length_le (by omega)]
  · unfold gOwn; rw [putN_ne e]
theorem putN_pri (g : DV) (v : Nat) (l : List Int) (u : Nat) : gPri (putN g v l) u = gPri g u := by
  by_cases e : v = u
  · subst e
    by_cases hv : v < g.length
    · exact gPri_at (putN_self hv l)
    · unfold putN; rw [List.set_eq_of_length_le (by omega)]
  · unfold gPri; rw [putN_ne e]
theorem putN_put (g : DV) (v : Nat) (a b : List Int) : putN (putN g v a) v b = putN g v b := by
  have h1 := putN_own g v a v
  have h2 := putN_pri g v a v
  show (putN g v a).set v (gOwn (putN g v a) v, gPri (putN g v a) v, b) = _
  rw [h1, h2]
  simp [putN]
theorem putN_raw {g : DV} {v : Nat} (hv : v < g.length) : putN g v (gRaw g v) = g := by
  obtain ⟨⟨o, p, l⟩, h⟩ : ∃ x, g[v]? = some x := ⟨_, List.getElem?_eq_getElem hv⟩
  unfold putN
  rw [gOwn_at h, gPri_at h, gRaw_at h]
  apply List.ext_getElem?
  intro u
  by_cases e : v = u
  · subst e; rw [List.getElem?_set_self hv, h]
  · rw [List.getElem?_set_ne e]
theorem putN_fixed {g : DV} {v : Nat} (hv : v < g.length) (n : Int) : Fixed g (putN g v [n]) v n.toNat :=
  ⟨putN_len _ _ _, putN_own _ _ _, putN_pri _ _ _, fun u e => by unfold gNxt; rw [putN_ne (Ne.symm e)], gNxt_at (putN_self hv [n])⟩
theorem GameOk.putN {g : DV} (ok : GameOk g) {v : Nat} (hv : v < g.length) {n : Int} (hn : 0 ≤ n ∧ n < g.length) : GameOk (putN g v [n]) := by
  obtain ⟨⟨o, p, l⟩, h⟩ : ∃ x, g[v]? = some x := ⟨_, List.getElem?_eq_getElem hv⟩
  have h1 := ok.at_ h
  refine ⟨by rw [putN_len]; exact ok.1, fun x hx => ?_⟩
  rw [putN_len]
  rcases List.mem_or_eq_of_mem_set hx with hx | hx
  · exact ok.2 x hx
  · subst hx
    rw [gOwn_at h, gPri_at h]
    exact ⟨h1.1, h1.2.1, fun y hy => by rw [List.mem_singleton.1 hy]; exact hn, List.pairwise_singleton _ _⟩
theorem GameOk.raw {g : DV} (ok : GameOk g) {v : Nat} {n : Int} (h : n ∈ gRaw g v) : v < g.length ∧ 0 ≤ n ∧ n < g.length := by
  by_cases hv : v < g.length
  · obtain ⟨⟨o, p, l⟩, hx⟩ : ∃ x, g[v]? = some x := ⟨_, List.getElem?_eq_getElem hv⟩
    rw [gRaw_at hx] at h
    exact ⟨hv, (ok.at_ hx).2.2.1 n h⟩
  · unfold gRaw at h
    rw [List.getElem?_eq_none (by omega)] at h
    exact (List.not_mem_nil h).elim
theorem GameOk.succ {g : DV} (ok : GameOk g) : ∀ v u, u ∈ gNxt g v → u < g.length := fun v u h => (ok.nxt v).2 u h

/-- The winner of a vertex. -/
noncomputable def wonI (g : DV) (v : Nat) : Int := if wonB g v then 1 else 0
theorem winnersF_at {g : DV} {v : Nat} (hv : v < g.length) : (winnersF g)[v]? = some (wonI g v) := by rw [winnersF_won, List.getElem?_map, List.getElem?_range hv]; rfl
theorem wonI_eq {g g' : DV} (h : winnersF g = winnersF g') (hl : g.length = g'.length) {v : Nat} (hv : v < g.length) : wonI g v = wonI g' v := by
  have h1 := winnersF_at hv
  have h2 := winnersF_at (g := g') (v := v) (by omega)
  rw [h, h2] at h1
  injection h1 with h1
  exact h1.symm
theorem wonI_inj {g : DV} {u v : Nat} (h : wonI g u = wonI g v) : wonB g u = wonB g v := by
  unfold wonI at h
  cases h1 : wonB g u <;> cases h2 : wonB g v <;> simp [h1, h2] at h ⊢

/-- A move of v keeps the winners W if it is fixed. -/
noncomputable def keeps (W : List Int) (g : DV) (v : Nat) (n : Int) : Bool := decide (winnersF (putN g v [n]) = W)
/-- A move into the winner's own region. -/
noncomputable def toOwn (g : DV) (v : Nat) (n : Int) : Bool := decide (wonI g n.toNat = gOwn g v)

theorem keeps_own {g : DV} (ok : GameOk g) {v : Nat} {n : Int} (hn : n ∈ gRaw g v) (hw : gOwn g v = wonI g v) (hk : keeps (winnersF g) g v n = true) : toOwn g v n = true := by
  obtain ⟨hv, h0, h1⟩ := ok.raw hn
  have hk := of_decide_eq_true hk
  have ok' := ok.putN hv ⟨h0, h1⟩
  have hF := putN_fixed hv n
  have e := one_move (g := putN g v [n]) ok'.owned ok'.succ (by rw [putN_len]; exact hv) hF.one
  have e1 := wonI_eq hk (putN_len g v [n]) (v := v) (by rw [putN_len]; exact hv)
  have e2 := wonI_eq hk (putN_len g v [n]) (v := n.toNat) (by rw [putN_len]; omega)
  refine decide_eq_true ?_
  rw [hw, ← e1, ← e2]
  unfold wonI
  rw [e]
theorem keeps_some {g : DV} (ok : GameOk g) {v : Nat} (hv : v < g.length) (hw : gOwn g v = wonI g v) : ∃ n, n ∈ gRaw g v ∧ keeps (winnersF g) g v n = true := by
  obtain ⟨n, hn, _, h⟩ := good_move ok.owned ok.succ hv hw
  rw [gNxt_raw] at hn
  obtain ⟨m, hm, rfl⟩ := List.mem_map.1 hn
  exact ⟨m, hm, decide_eq_true (h _ (putN_fixed hv m))⟩
theorem find_filter {α : Type} {p q : α → Bool} : ∀ (l : List α), (∀ x, x ∈ l → p x = true → q x = true) → (l.filter q).find? p = l.find? p
  | [], _ => rfl
  | x :: l, h => by
    have ih := find_filter l fun y hy => h y (List.mem_cons_of_mem _ hy)
    cases hp : p x with
    | true =>
      rw [List.filter_cons_of_pos (h x (List.mem_cons_self ..) hp), List.find?_cons_of_pos hp, List.find?_cons_of_pos hp]
    | false =>
      rw [List.find?_cons_of_neg (by rw [hp]; simp)]
      cases hq : q x with
      | true => rw [List.filter_cons_of_pos hq, List.find?_cons_of_neg (by rw [hp]; simp), ih]
      | false => rw [List.filter_cons_of_neg (by rw [hq]; simp), ih]

/-- The choice at v, if one is found. -/
noncomputable def pickF (g : DV) (v : Nat) : Option Int := if gOwn g v = wonI g v then (gRaw g v).find? (keeps (winnersF g) g v) else none
theorem pick_own {g : DV} (ok : GameOk g) {v : Nat} (hw : gOwn g v = wonI g v) : pickF g v = ((gRaw g v).filter (toOwn g v)).find? (keeps (winnersF g) g v) := by
  unfold pickF
  rw [if_pos hw]
  exact (find_filter _ fun x hx hp => keeps_own ok hx hw hp).symm
theorem pick_is {g : DV} (ok : GameOk g) {v : Nat} (hv : v < g.length) (hw : gOwn g v = wonI g v) : ∃ n, pickF g v = some n ∧ n ∈ gRaw g v ∧ keeps (winnersF g) g v n = true := by
  obtain ⟨m, hm, hk⟩ := keeps_some ok hv hw
  unfold pickF
  rw [if_pos hw]
  cases c : (gRaw g v).find? (keeps (winnersF g) g v) with
  | none => exact absurd hk (List.find?_eq_none.1 c m hm)
  | some n => exact ⟨n, rfl, List.mem_of_find?_eq_some c, List.find?_some c⟩
theorem find_take_step {α : Type} {p : α → Bool} {l : List α} {k : Nat} {x : α} (h : (l.take k).find? p = none) (hx : l[k]? = some x) (hp : p x = false) : (l.take (k + 1)).find? p = none := by
  rw [List.take_add_one, hx, List.find?_append, h]
  simp [hp]
theorem find_hit {α : Type} {p : α → Bool} {l : List α} {k : Nat} {x : α} (h : (l.take k).find? p = none) (hx : l[k]? = some x) (hp : p x = true) : l.find? p = some x := by
  have : l = l.take k ++ x :: l.drop (k + 1) := by
    rw [← List.take_append_drop k l] 
    congr 1
    · rw [List.take_append_drop]
    · rw [List.take_append_drop]; exact List.drop_eq_getElem?_toList_append.trans (by rw [hx]; rfl)
  rw [this, List.find?_append, h]
  simp [hp]

/-- One vertex. -/
noncomputable def stepF (s : DV × List Int) (k : Nat) : DV × List Int :=
  match pickF s.1 k with
  | some n => (putN s.1 k [n], s.2 ++ [n])
  | none => (s.1, s.2 ++ [-1])
noncomputable def stateK (g : DV) (k : Nat) : DV × List Int := (List.range k).foldl stepF (g, [])
theorem stateK_zero (g : DV) : stateK g 0 = (g, []) := rfl
theorem stateK_succ (g : DV) (k : Nat) : stateK g (k + 1) = stepF (stateK g k) k := by unfold stateK; rw [List.range_succ, List.foldl_append]; rfl
noncomputable def stratF (g : DV) : List Int := (stateK g g.length).2
structure StateOk (g : DV) (s : DV × List Int) (k : Nat) : Prop where
  ok : GameOk s.1
  len : s.1.length = g.length
  win : winnersF s.1 = winnersF g
  own : ∀ u, gOwn s.1 u = gOwn g u
  later : ∀ u, k ≤ u → s.1[u]? = g[u]?
  out : s.2.length = k
theorem stateK_ok {g : DV} (ok : GameOk g) : ∀ k, k ≤ g.length → StateOk g (stateK g k) k
  | 0, _ => ⟨ok, rfl, rfl, fun _ => rfl, fun _ _ => rfl, rfl⟩
  | k + 1, hk => by
    have ih := stateK_ok ok k (by omega)
    rw [stateK_succ]
    unfold stepF
    by_cases hw : gOwn (stateK g k).1 k = wonI (stateK g k).1 k
    · obtain ⟨n, h1, h2, h3⟩ := pick_is ih.ok (by rw [ih.len]; omega) hw
      rw [h1]
      obtain ⟨hv, hb⟩ := ih.ok.raw h2
      exact ⟨ih.ok.putN hv hb, by rw [putN_len]; exact ih.len, by rw [← ih.win]; exact of_decide_eq_true h3, fun u => by rw [putN_own]; exact ih.own u, fun u hu => by rw [putN_ne (by omega)]; exact ih.later u (by omega), by simp [ih.out]⟩
    · have : pickF (stateK g k).1 k = none := by unfold pickF; rw [if_neg hw]
      rw [this]
      exact ⟨ih.ok, ih.len, ih.win, ih.own, fun u hu => ih.later u (by omega), by simp [ih.out]⟩

end Go.Proofs.Ythmhlbkkhaplkaa

namespace Go.Proofs.Ythmhlbkkhaplkaa
open Go.ChangeShapes Go.WideShapes Go.ChangeAt Go.RowKit
set_option linter.unusedVariables false

theorem info_int64 : (Try.prog.info? 2).map (fun i => (i.zero, i.size, i.bytes)) = some (some (.int .i64 0), 1, 8) := by kernel_rfl

end Go.Proofs.Ythmhlbkkhaplkaa

namespace Go.Proofs.Ythmhlbkkhaplkaa
open Go.ChangeShapes Go.WideShapes Go.Deep Go.RowKit

theorem addr_add (b off i : Nat) : (⟨b, off, none⟩ : Addr).add i = ⟨b, off + i, none⟩ := by
  unfold Addr.add
  split <;> simp_all

theorem list_of {α : Type} {Q : Nat → α → Prop} (n : Nat) (h : ∀ i, i < n → ∃ x, Q i x) : ∃ l : List α, l.length = n ∧ ∀ i x, l[i]? = some x → Q i x := by
  induction n with
  | zero => exact ⟨[], rfl, fun i x h => by simp at h⟩
  | succ n ih =>
    obtain ⟨l, hl, hq⟩ := ih fun i hi => h i (by omega)
    obtain ⟨y, hy⟩ := h n (by omega)
    refine ⟨l ++ [y], by simp [hl], fun i x hx => ?_⟩
    rcases Nat.lt_or_ge i n with hi | hi
    · rw [List.getElem?_append_left (by omega)] at hx
      exact hq i x hx
    · rw [List.getElem?_append_right (by omega)] at hx
      have : i = n := by
        have := (List.getElem?_eq_some_iff.1 hx).1
        simp at this
        omega
      subst this
      simp [hl] at hx
      subst hx
      exact hy

section
variable {H : Type} {enc : TypeId × Value → H} {P : Program} {w : World} {base : Nat} {spare : Nat → Bool} {held : Bool}

theorem mem_row {a : Addr} {n j : Nat} (h : j < n) : MemPlace.cell a.block (a.off + j) ∈ MemPlace.row a n := List.mem_map.2 ⟨j, List.mem_range.2 h, rfl⟩

theorem open_flat {α : Type} (f : α → List Value) {t e : TypeId} {size : Nat} (ht : P.underlying t = some (.slice e)) (hC : P.cellsOf e = size) (hs : 0 < size)
    (hE : ∀ (fuel : Nat) (cs : List Value) (y : DataW H × List MemPlace), DataW.trod enc P w base spare held fuel e cs = some y → cs.length = size → ∃ x : α, cs = f x)
    {fuel : Nat} {cs : List Value} {r : DataW H × List MemPlace} (h : DataW.trod enc P w base spare held fuel t cs = some r) (hz : ∀ b off, MemPlace.cell b off ∈ r.2 → w.frozen? ⟨b, off, none⟩ = false) :
    ∃ A n c l, cs = [.slice A n c] ∧ n ≤ maxLen ∧ Sl size f w base w.heap.size A n l := by
  rcases open_slice ht h with ⟨hcs, _⟩ | ⟨a, len, cap, m, n, D, Pl, hcs, hb, hl, hm, hmm, hr, hi⟩
  · exact ⟨none, 0, 0, [], hcs, Nat.zero_le _, Sl.nil_⟩
  · have hlm : len ≤ m := by rw [hmm]; split <;> omega
    have hq : ∀ i, i < len → ∃ x : α, ∀ j u, (f x)[j]? = some u → w.cell? ((a.add (i * size)).add j) = some u ∧ j < size := by
      intro i hil
      obtain ⟨cs', hc, ht'⟩ := hi i (by omega)
      rw [hC] at hc
      obtain ⟨_, hcl, hat⟩ := World.cells?_some hc
      obtain ⟨y, rfl⟩ := hE _ _ _ ht' hcl
      refine ⟨y, fun j u hu => ?_⟩
      have hj : j < size := by rw [← hcl]; exact (List.getElem?_eq_some_iff.1 hu).1
      exact ⟨(hat j hj).trans hu, hj⟩
    obtain ⟨l, hll, hlq⟩ := list_of len hq
    refine ⟨some a, len, cap, l, hcs, by omega, hll, fun h0 => ?_⟩
    obtain ⟨b, off, spot⟩ := a
    have hspot : spot = none := by
      obtain ⟨cs', hc, ht'⟩ := hi 0 (by omega)
      rw [hC] at hc
      obtain ⟨_, hcl, hat⟩ := World.cells?_some hc
      have h1 := hat 0 hs
      rw [List.getElem?_eq_getElem (by omega)] at h1
      simpa [Addr.add] using World.cell?_spot h1
    subst hspot
    have hcell : ∀ (k : Nat) (x : α), l[k]? = some x → ∀ (j : Nat) (u : Value), (f x)[j]? = some u → w.cell? ⟨b, off + (k * size + j), none⟩ = some u ∧ k < len ∧ j < size := by
      intro k x hx j u hu
      obtain ⟨h1, h2⟩ := hlq k x hx j u hu
      rw [addr_add, addr_add, Nat.add_assoc] at h1
      exact ⟨h1, by rw [← hll]; exact (List.getElem?_eq_some_iff.1 hx).1, h2⟩
    have hbl : b < w.heap.size := by
      obtain ⟨cs', hc, ht'⟩ := hi 0 (by omega)
      rw [hC] at hc
      obtain ⟨_, hcl, hat⟩ := World.cells?_some hc
      have h1 := hat 0 hs
      rw [List.getElem?_eq_getElem (by omega), addr_add, addr_add] at h1
      exact World.block_lt_of_cell? w _ h1
    refine ⟨b, off, rfl, hb, hbl, hbl, fun k x hx j u hu => ?_⟩
    obtain ⟨h1, h2, h3⟩ := hcell k x hx j u hu
    refine ⟨h1, hz _ _ ?_⟩
    rw [hr, hC]
    refine List.mem_append_left _ (mem_row (a := ⟨b, off, none⟩) ?_)
    have hkm : (k + 1) * size ≤ m * size := Nat.mul_le_mul_right _ (by omega)
    rw [Nat.add_mul] at hkm
    omega

end

end Go.Proofs.Ythmhlbkkhaplkaa

namespace Go.Proofs.Ythmhlbkkhaplkaa
open Go.RowKit

/-- The cells of an element: always size many, each one cell. -/
structure Flat {α : Type} (f : α → List Value) (size : Nat) : Prop where
  len : ∀ x, (f x).length = size
  one : ∀ x u, u ∈ f x → u.oneCell' = true

theorem flat_iv : Flat iv 1 := ⟨fun _ => rfl, fun x u h => by simp [iv] at h; subst h; rfl⟩

/-- What the program's tables say of a slice type and its elements. -/
def Elem (P : Program) (t e : TypeId) (size bytes : Nat) : Prop :=
  P.underlying t = some (.slice e) ∧ 0 < size ∧ 0 < bytes ∧ ∃ i z, P.info? e = some i ∧ i.zero = some z ∧ i.size = size ∧ i.bytes = bytes ∧ z.cells.size = size

theorem Elem.of {P : Program} {t e : TypeId} {size bytes : Nat} {z : Value} (ht : P.underlying t = some (.slice e)) (hi : (P.info? e).map (fun i => (i.zero, i.size, i.bytes)) = some (some z, size, bytes))
    (hz : z.cells.size = size) (h0 : 0 < size) (h1 : 0 < bytes) : Elem P t e size bytes := by
  obtain ⟨i, a, b, c, d⟩ := info_parts hi
  exact ⟨ht, h0, h1, i, z, a, b, c, d, hz⟩

/-- The slice value `.slice A n c` is the call's own (blocks from base on), and holds l. -/
def Own {α : Type} (size : Nat) (f : α → List Value) (w : World) (base : Nat) (e : TypeId) (A : Option Addr) (n c : Nat) (l : List α) : Prop :=
  l.length = n ∧ w.ownsRow base e size (.slice A n c) n (l.flatMap f)

theorem flat_length {α : Type} {f : α → List Value} {size : Nat} (hf : Flat f size) (l : List α) : (l.flatMap f).length = l.length * size := by
  induction l with
  | nil => simp
  | cons x l ih => simp [List.flatMap_cons, ih, hf.len, Nat.add_mul]; omega

theorem flat_at {α : Type} {f : α → List Value} {size : Nat} (hf : Flat f size) : ∀ (l : List α) (k : Nat) (x : α), l[k]? = some x → ∀ (j : Nat) (u : Value), (f x)[j]? = some u → (l.flatMap f)[k * size + j]? = some u := by
  intro l
  induction l with
  | nil => intro k x h; simp at h
  | cons y l ih =>
    intro k x h j u hu
    have hj : j < size := by rw [← hf.len x]; exact (List.getElem?_eq_some_iff.1 hu).1
    rw [List.flatMap_cons]
    cases k with
    | zero =>
      simp at h
      subst h
      rw [List.getElem?_append_left (by rw [hf.len]; omega)]
      simpa using hu
    | succ k =>
      simp at h
      rw [List.getElem?_append_right (by rw [hf.len, Nat.add_mul]; omega), hf.len]
      have : (k + 1) * size + j - size = k * size + j := by rw [Nat.add_mul]; omega
      rw [this]
      exact ih k x h j u hu

theorem flat_from {α : Type} {f : α → List Value} {size : Nat} (hf : Flat f size) : ∀ (l : List α) (j : Nat) (u : Value), (l.flatMap f)[j]? = some u → ∃ k i x, l[k]? = some x ∧ (f x)[i]? = some u ∧ j = k * size + i := by
  intro l
  induction l with
  | nil => intro j u h; simp at h
  | cons y l ih =>
    intro j u h
    rw [List.flatMap_cons] at h
    rcases Nat.lt_or_ge j size with hj | hj
    · rw [List.getElem?_append_left (by rw [hf.len]; exact hj)] at h
      exact ⟨0, j, y, rfl, h, by simp⟩
    · rw [List.getElem?_append_right (by rw [hf.len]; exact hj), hf.len] at h
      obtain ⟨k, i, x, h1, h2, h3⟩ := ih _ _ h
      exact ⟨k + 1, i, x, by simpa using h1, h2, by rw [Nat.add_mul]; omega⟩

theorem flat_one {α : Type} {f : α → List Value} {size : Nat} (hf : Flat f size) (l : List α) : ∀ u ∈ l.flatMap f, u.oneCell' = true := by
  intro u hu
  obtain ⟨x, _, hx⟩ := List.mem_flatMap.1 hu
  exact hf.one x u hx

section
variable {α : Type} {size : Nat} {f : α → List Value} {w w' : World} {base n c : Nat} {e : TypeId} {A : Option Addr} {l : List α}

theorem Own.len (h : Own size f w base e A n c l) : l.length = n := h.1

theorem Own.nil_ (w : World) (base : Nat) (e : TypeId) : Own size f w base e none 0 0 ([] : List α) := ⟨rfl, World.ownsRow_nil _ _ _ _⟩

theorem Own.lt (h : Own size f w base e A n c l) : ∀ g, (Value.slice A n c).ownBlock = some g → base ≤ g ∧ g < w.heap.size := h.2.lt

theorem Own.sl (h : Own size f w base e A n c l) (hf : Flat f size) : Sl size f w base w.heap.size A n l := by
  refine ⟨h.1, fun hn => ?_⟩
  rcases h.2.2 with ⟨hv, rfl⟩ | ⟨g, cap, cur, hv, hb, hg, hnc, hcm, hcs, htake⟩
  · omega
  · injection hv with hA _ _
    subst hA
    have hlt : g < w.heap.size := (Array.getElem?_eq_some_iff.1 hg).1
    refine ⟨g, 0, rfl, hb, hlt, hlt, fun k x hx j u hu => ?_⟩
    have h1 := flat_at hf l k x hx j u hu
    have h2 := h.2.cells (g := g) rfl _ _ h1
    have hadd : (⟨g, 0, none⟩ : Addr).add (k * size + j) = ⟨g, 0 + (k * size + j), none⟩ := by unfold Addr.add; split <;> simp_all
    rw [hadd] at h2
    exact ⟨h2, frozen_of_row w g _ cur e hg⟩

theorem Own.keep (h : Own size f w base e A n c l) (hk : ∀ g, (Value.slice A n c).ownBlock = some g → w'.heap[g]? = w.heap[g]?) : Own size f w' base e A n c l := by
  refine ⟨h.1, h.2.1, ?_⟩
  rcases h.2.2 with hn | ⟨g, cap, cur, hv, hb, hg, rest⟩
  · exact .inl hn
  · refine .inr ⟨g, cap, cur, hv, hb, ?_, rest⟩
    rw [hk g (by rw [hv]; rfl)]
    exact hg

theorem Own.below (h : Own size f w base e A n c l) {B : Nat} (hb : Below B w w') (hB : w.heap.size ≤ B) : Own size f w' base e A n c l :=
  h.keep fun g hg => hb.block g (by have := (h.lt g hg).2; omega)

theorem Own.lower (h : Own size f w base e A n c l) {base' : Nat} (hb : base' ≤ base) : Own size f w base' e A n c l := by
  refine ⟨h.1, h.2.1, ?_⟩
  rcases h.2.2 with hn | ⟨g, cap, cur, hv, hg, rest⟩
  · exact .inl hn
  · exact .inr ⟨g, cap, cur, hv, by omega, rest⟩
end

/-- A slice written out in the text: one element, in a block of its own. -/
theorem Sl.lit1 {α : Type} {f : α → List Value} (w : World) (t : TypeId) (x : α) (cs : Array Value) (h : f x = cs.toList) (size lo : Nat) (hlo : lo ≤ w.heap.size) :
    Sl size f (w.alloc (.cells cs t)) lo (w.heap.size + 1) (some ⟨w.heap.size, 0, none⟩) 1 [x] := by
  refine ⟨rfl, fun _ => ⟨w.heap.size, 0, rfl, hlo, by omega, by simp, fun k y hy j u hu => ?_⟩⟩
  cases k with
  | succ k => simp at hy
  | zero =>
    simp at hy
    subst hy
    rw [h] at hu
    simp only [Nat.zero_mul, Nat.zero_add]
    have hg := heap_alloc_new w (.cells cs t)
    exact ⟨(cell_of_row _ _ _ cs t (0, 0) hg).trans (by simpa using hu), frozen_of_row _ _ _ cs t hg⟩

/-- The same, the new block's number as the walk spells it. -/
theorem Sl.lit1' {α : Type} {f : α → List Value} (w : World) (t : TypeId) (x : α) (cs : Array Value) (h : f x = cs.toList) (size g : Nat) (hg : g = w.heap.size) :
    Sl size f (w.alloc (.cells cs t)) 0 (g + 1) (some ⟨g, 0, none⟩) 1 [x] := by
  subst hg
  exact Sl.lit1 w t x cs h size 0 (Nat.zero_le _)

section
variable {P : Program} {α : Type} {size bytes : Nat} {f : α → List Value} {t e : TypeId}

theorem run_app (w : World) (hE : Elem P t e size bytes) (hf : Flat f size) (ty : TypeId) {base n c : Nat} {A : Option Addr} {l : List α} (hown : Own size f w base e A n c l)
    {B : Option Addr} {m d lo hi : Nat} {r : List α} (hr : Sl size f w lo hi B m r) (hsz : (n + m) * bytes ≤ 140737488355328) (hbase : base ≤ w.heap.size) :
    ∃ A' c' w', (Builtin.append_ #[t, t] ty #[.slice A n c, .slice B m d]).run P w = .ok (.slice A' (n + m) c') w' ∧ Own size f w' base e A' (n + m) c' (l ++ r) ∧ w.grownBy w' (Value.slice A n c).ownBlock ∧
      ((Value.slice A' (n + m) c').ownBlock = (Value.slice A n c).ownBlock ∨ (Value.slice A' (n + m) c').ownBlock = some w.heap.size) := by
  obtain ⟨ht, h0, hb0, i, z, hi', hz, hs, hby, hzs⟩ := hE
  have hnm : n + m ≤ 140737488355328 := Nat.le_trans (Nat.le_mul_of_pos_right _ hb0) hsz
  have key : ∀ v' w', w'.ownsRow base e size v' (n + m) (l.flatMap f ++ r.flatMap f) → ∃ A' c', v' = .slice A' (n + m) c' ∧ Own size f w' base e A' (n + m) c' (l ++ r) := by
    intro v' w' h
    have hsh : ∃ A' c', v' = .slice A' (n + m) c' := by
      rcases h.2 with ⟨rfl, h0⟩ | ⟨g, cap, cur, rfl, _⟩
      · exact ⟨none, 0, by rw [h0]⟩
      · exact ⟨_, _, rfl⟩
    obtain ⟨A', c', rfl⟩ := hsh
    exact ⟨A', c', rfl, by rw [List.length_append, hown.1, hr.len], by rw [List.flatMap_append]; exact h⟩
  by_cases hm : m = 0
  · subst hm
    have hr0 : r = [] := List.eq_nil_of_length_eq_zero hr.len
    subst hr0
    have hrun : (Builtin.append_ #[t, t] ty #[.slice A n c, .slice B 0 d]).run P w = .ok (.slice A n c) w := by
      rcases hown.2.2 with ⟨hv, rfl⟩ | ⟨g, cap, cur, hv, _, hg, hnc, _⟩
      · injection hv with h1 _ h3
        subst h1 h3
        cases B <;> simp [Builtin.append_, run_underlying ht, sizeOf, typeInfo, hi', Builtin.lenOf, Builtin.firstCells, loadCells, loadCellsFrom]
      · injection hv with h1 _ h3
        subst h1 h3
        cases B <;> simp [Builtin.append_, run_underlying ht, sizeOf, typeInfo, hi', Builtin.lenOf, Builtin.firstCells, loadCells, loadCellsFrom, hnc, storeCells]
    exact ⟨A, c, w, hrun, ⟨by simpa using hown.1, by simpa using hown.2⟩, ⟨rfl, rfl, rfl, Nat.le_refl _, fun _ _ _ => rfl⟩, .inl rfl⟩
  · obtain ⟨b, off, rfl, _, _, _, hc⟩ := hr.at_ (by omega)
    obtain ⟨v', w', h1, h2, h3, _, h5⟩ := run_append_own_at (P := P) w base t ty e i z size bytes ht hi' hz hs hby hzs h0 (.slice A n c) n (l.flatMap f) hown.2 ⟨b, off, none⟩ m d (r.flatMap f)
      (by rw [flat_length hf, hr.len]) (fun j u hu => by
        obtain ⟨k, i, x, hx, hu', rfl⟩ := flat_from hf r j u hu
        have hadd : (⟨b, off, none⟩ : Addr).add (k * size + i) = ⟨b, off + (k * size + i), none⟩ := by unfold Addr.add; split <;> simp_all
        rw [hadd]
        exact (hc k x hx i u hu').1) (flat_one hf r) (by unfold maxLen; omega) hsz hbase
    obtain ⟨A', c', rfl, h6⟩ := key v' w' h2
    exact ⟨A', c', w', h1, h6, h3, h5⟩

/-- append, at the walk's operation. -/
theorem wpList_app {w : World} {ops : Array Oper} {rest : List Oper} {o : Oper} {a : Act} {Q : Exit → Act → World → Prop} (hgd : o.guard = none) (s x : Operand)
    (ho : o.op = .call { callee := .builtin .append, args := #[s, x], argTypes := #[t, t] }) (hE : Elem P t e size bytes) (hf : Flat f size)
    {base n c : Nat} {A : Option Addr} {l : List α} (hs : a.eval s = .slice A n c) (hown : Own size f w base e A n c l)
    {B : Option Addr} {m d lo hi : Nat} {r : List α} (hx : a.eval x = .slice B m d) (hr : Sl size f w lo hi B m r) (hsz : (n + m) * bytes ≤ 140737488355328) (hbase : base ≤ w.heap.size)
    (h : ∀ A' c' w', Own size f w' base e A' (n + m) c' (l ++ r) → w.grownBy w' (Value.slice A n c).ownBlock → Below base w w' →
      ((Value.slice A' (n + m) c').ownBlock = (Value.slice A n c).ownBlock ∨ (Value.slice A' (n + m) c').ownBlock = some w.heap.size) → wpList P ops Q rest (a.put o.dst (.slice A' (n + m) c')) w') : wpList P ops Q (o :: rest) a w := by
  refine wpList_plain hgd fun K hK => ?_
  obtain ⟨A', c', w', h1, h2, h3, h4⟩ := run_app w hE hf o.type hown (d := d) hr hsz hbase
  unfold Oper.wp execOp
  simp only [ho, resolve, invoke, builtin, Sem.run_bind, Sem.run_pure, Result.andThen_ok, List.map_toArray, List.map_cons, List.map_nil, hs, hx, h1]
  exact hK _ _ (h A' c' w' h2 h3 ((Below.refl _ _).grown h3 hbase fun k hk => (hown.lt k hk).1) h4)
end

/-- An empty slice written out in the text, or made: of the call's own. -/
theorem Own.made {α : Type} {size : Nat} {f : α → List Value} (w : World) {base : Nat} (e : TypeId) (hb : base ≤ w.heap.size) : Own size f (w.alloc (.cells #[] e)) base e (some ⟨w.heap.size, 0, none⟩) 0 0 ([] : List α) :=
  ⟨rfl, World.ownsRow_made w #[] 0 hb (Nat.zero_le _) (by simp)⟩

theorem Own.alloc {α : Type} {size : Nat} {f : α → List Value} {w : World} {base n c : Nat} {e : TypeId} {A : Option Addr} {l : List α} (h : Own size f w base e A n c l) (o : Obj) : Own size f (w.alloc o) base e A n c l :=
  ⟨h.1, h.2.alloc o⟩

/-- Where `s[l:]` begins (at its end the old address stays). -/
def cutA (A : Option Addr) (l cap size : Nat) : Option Addr := if cap = l then A else A.map (·.add (l * size))

theorem Sl.cut {α : Type} {size : Nat} {f : α → List Value} {w : World} {lo hi n c k : Nat} {A : Option Addr} {l : List α} (h : Sl size f w lo hi A n l) (hk : k ≤ n) (hc : n ≤ c) : Sl size f w lo hi (cutA A k c size) (n - k) (l.drop k) := by
  refine ⟨by rw [List.length_drop, h.len], fun hn => ?_⟩
  obtain ⟨b, off, rfl, g1, g2, g3, hcell⟩ := h.at_ (by omega)
  have e : cutA (some ⟨b, off, none⟩) k c size = some ⟨b, off + k * size, none⟩ := by
    unfold cutA
    rw [if_neg (by omega)]
    simp only [Option.map_some, Addr.add]
    split <;> simp_all
  rw [e]
  refine ⟨b, off + k * size, rfl, g1, g2, g3, fun i x hx j u hu => ?_⟩
  rw [List.getElem?_drop] at hx
  have h1 := hcell (k + i) x hx j u hu
  have e2 : off + ((k + i) * size + j) = off + k * size + (i * size + j) := by rw [Nat.add_mul]; omega
  rw [e2] at h1
  exact h1

theorem Sl.take {α : Type} {size : Nat} {f : α → List Value} {w : World} {lo hi n k : Nat} {A : Option Addr} {l : List α} (h : Sl size f w lo hi A n l) (hk : k ≤ n) : Sl size f w lo hi A k (l.take k) := by
  refine ⟨by rw [List.length_take, h.len]; omega, fun hn => ?_⟩
  obtain ⟨b, off, rfl, g1, g2, g3, hcell⟩ := h.at_ (by omega)
  refine ⟨b, off, rfl, g1, g2, g3, fun i x hx j u hu => ?_⟩
  rw [List.getElem?_take] at hx
  split at hx
  · exact hcell i x hx j u hu
  · cases hx

/-- `s[k:]`. -/
theorem run_cut {P : Program} {t e : TypeId} {size bytes : Nat} (hE : Elem P t e size bytes) (A : Option Addr) (n c k : Nat) (hk : k ≤ n) (W : World) :
    (Instr.slice t (.slice A n c) (some (.int .i64 (k : Int))) none none).run P W = .ok (.slice (cutA A k c size) (n - k) (c - k)) W := by
  obtain ⟨ht, _, _, i, z, hi, _, hs, _⟩ := hE
  have he : P.elem t = e := by simp [Program.elem, ht]
  rw [run_slice_l W t A n c (by rw [he]; exact ht) .i64 k (by omega) (by omega)]
  simp [sizeOf, typeInfo, he, hi, hs, sliced, cutA]

/-- `s[:k]`. -/
theorem run_head {P : Program} {t e : TypeId} {size bytes : Nat} (hE : Elem P t e size bytes) (A : Option Addr) (n c k : Nat) (hk : k ≤ c) (W : World) :
    (Instr.slice t (.slice A n c) none (some (.int .i64 (k : Int))) none).run P W = .ok (.slice A k c) W := by
  obtain ⟨ht, _, _, i, z, hi, _, hs, _⟩ := hE
  have he : P.elem t = e := by simp [Program.elem, ht]
  rw [run_slice_h W t A n c (by rw [he]; exact ht) .i64 k (by omega) (by omega)]
  have ha : A.map (fun x => x.add 0) = A := by cases A <;> simp [Addr.add]
  simp [sizeOf, typeInfo, he, hi, hs, sliced, ha]

theorem Own.take {α : Type} {size : Nat} {f : α → List Value} {w : World} {base n c k : Nat} {e : TypeId} {A : Option Addr} {l : List α} (hf : Flat f size) (h : Own size f w base e A n c l) (hk : k ≤ n) : Own size f w base e A k c (l.take k) := by
  have hl : (l.take k).length = k := by rw [List.length_take, h.1]; omega
  have hfl : (l.take k).flatMap f = (l.flatMap f).take (k * size) := by
    have h1 : l.flatMap f = (l.take k).flatMap f ++ (l.drop k).flatMap f := by rw [← List.flatMap_append, List.take_append_drop]
    rw [h1]
    have h2 := flat_length hf (l.take k)
    rw [hl] at h2
    rw [← h2, List.take_left]
  refine ⟨hl, by rw [flat_length hf, hl], ?_⟩
  rcases h.2.2 with ⟨hv, h0⟩ | ⟨g, cap, cur, hv, hb, hg, hnc, hcm, hcs, htake⟩
  · injection hv with h1 _ h3
    subst h1 h3
    have : k = 0 := by omega
    subst this
    exact .inl ⟨rfl, rfl⟩
  · injection hv with h1 _ h3
    subst h1 h3
    refine .inr ⟨g, c, cur, rfl, hb, hg, by omega, hcm, hcs, ?_⟩
    rw [hfl, ← htake, List.take_take]
    congr 1
    have := Nat.mul_le_mul_right size hk
    omega

theorem Own.cap {α : Type} {size : Nat} {f : α → List Value} {w : World} {base n c : Nat} {e : TypeId} {A : Option Addr} {l : List α} (h : Own size f w base e A n c l) : n ≤ c := by
  rcases h.2.2 with ⟨hv, h0⟩ | ⟨g, cap, cur, hv, _, _, hnc, _⟩
  · omega
  · injection hv with _ _ h3
    omega

/-- A slice value as an element. -/
def sv (x : Option Addr × Nat × Nat) : List Value := [.slice x.1 x.2.1 x.2.2]
/-- Rows of different element types are different rows. -/
theorem Own.apart {α β : Type} {size size' : Nat} {f : α → List Value} {f' : β → List Value} {w : World} {base base' n c n' c' : Nat} {e e' : TypeId} {A A' : Option Addr} {l : List α} {l' : List β}
    (h : Own size f w base e A n c l) (g : Own size' f' w base' e' A' n' c' l') (he : e ≠ e') : (Value.slice A n c).ownBlock = none ∨ (Value.slice A n c).ownBlock ≠ (Value.slice A' n' c').ownBlock := by
  rcases h.2.2 with ⟨hv, _⟩ | ⟨b, cap, cur, hv, _, hb, _⟩
  · left; rw [hv]; rfl
  · right
    intro e1
    rcases g.2.2 with ⟨hv', _⟩ | ⟨b', cap', cur', hv', _, hb', _⟩
    · rw [hv, hv'] at e1; simp [Value.ownBlock] at e1
    · rw [hv, hv'] at e1
      simp [Value.ownBlock] at e1
      subst e1
      rw [hb] at hb'
      injection hb' with hb'
      injection hb' with _ ht
      exact he ht
theorem Own.kept {α : Type} {size : Nat} {f : α → List Value} {w w' : World} {base n c : Nat} {e : TypeId} {A : Option Addr} {l : List α} {row : Option Nat} (h : Own size f w base e A n c l) (hg : w.grownBy w' row) (hne : (Value.slice A n c).ownBlock = none ∨ (Value.slice A n c).ownBlock ≠ row) :
    Own size f w' base e A n c l := ⟨h.1, h.2.kept hg hne⟩

end Go.Proofs.Ythmhlbkkhaplkaa

namespace Go.Proofs.Ythmhlbkkhaplkaa
open Go.RowKit

/-- A slice's header. -/
abbrev Hd := Option Addr × Nat × Nat

/-- The block that a handle's elements lie in, as a span. -/
def spanOf (h : Hd) : Nat × Nat := if h.2.1 = 0 then (0, 0) else match h.1 with | some a => (a.block, a.block + 1) | none => (0, 0)
def offS (x y : Nat × Nat) : Prop := x.2 ≤ y.1 ∨ y.2 ≤ x.1
theorem offS.symm {x y : Nat × Nat} (h : offS x y) : offS y x := Or.symm h

theorem spanOf_zero (A : Option Addr) (c : Nat) : spanOf (A, 0, c) = (0, 0) := rfl
theorem spanOf_pos {n : Nat} (b off c : Nat) (hn : 0 < n) : spanOf (some ⟨b, off, none⟩, n, c) = (b, b + 1) := if_neg (by show ¬ n = 0; omega)

section
variable {α : Type} {size : Nat} {f : α → List Value} {w w' : World} {lo hi n : Nat} {A : Option Addr} {l : List α}

theorem Sl.tight (h : Sl size f w lo hi A n l) (c : Nat) : Sl size f w (spanOf (A, n, c)).1 (spanOf (A, n, c)).2 A n l := by
  rcases Nat.eq_zero_or_pos n with rfl | hn
  · exact ⟨h.1, fun h0 => absurd h0 (by omega)⟩
  · obtain ⟨b, off, rfl, g1, g2, g3, hc⟩ := h.at_ hn
    rw [spanOf_pos b off c hn]
    exact ⟨h.1, fun _ => ⟨b, off, rfl, Nat.le_refl _, Nat.lt_succ_self _, g3, hc⟩⟩

theorem Sl.span (h : Sl size f w lo hi A n l) (c : Nat) : spanOf (A, n, c) = (0, 0) ∨ (lo ≤ (spanOf (A, n, c)).1 ∧ (spanOf (A, n, c)).2 ≤ hi ∧ (spanOf (A, n, c)).2 ≤ w.heap.size) := by
  rcases Nat.eq_zero_or_pos n with rfl | hn
  · exact .inl rfl
  · obtain ⟨b, off, rfl, g1, g2, g3, hc⟩ := h.at_ hn
    rw [spanOf_pos b off c hn]
    exact .inr ⟨g1, g2, g3⟩

theorem Sl.loose {c : Nat} (h : Sl size f w (spanOf (A, n, c)).1 (spanOf (A, n, c)).2 A n l) (hs : spanOf (A, n, c) = (0, 0) ∨ (lo ≤ (spanOf (A, n, c)).1 ∧ (spanOf (A, n, c)).2 ≤ hi)) : Sl size f w lo hi A n l := by
  rcases Nat.eq_zero_or_pos n with rfl | hn
  · exact ⟨h.1, fun h0 => absurd h0 (by omega)⟩
  · obtain ⟨b, off, rfl, g1, g2, g3, hc⟩ := h.at_ hn
    rw [spanOf_pos b off c hn] at hs
    rcases hs with hs | hs
    · simp at hs
    · exact ⟨h.1, fun _ => ⟨b, off, rfl, hs.1, by have := hs.2; show b < hi; simp at this; omega, g3, hc⟩⟩

theorem Sl.keepB (h : Sl size f w lo hi A n l) (hs : w.heap.size ≤ w'.heap.size) (hk : ∀ b off, 0 < n → A = some ⟨b, off, none⟩ → lo ≤ b → b < w.heap.size → w'.heap[b]? = w.heap[b]?) : Sl size f w' lo hi A n l := by
  rcases Nat.eq_zero_or_pos n with rfl | hn
  · exact ⟨h.1, fun h0 => absurd h0 (by omega)⟩
  · have ht := h.tight 0
    obtain ⟨b, off, rfl, g1, g2, g3, _⟩ := h.at_ hn
    have e := spanOf_pos b off 0 hn
    exact (ht.keep hs fun b' h1 h2 h3 => by
      rw [e] at h1 h2
      simp at h1 h2
      have : b' = b := by omega
      subst this
      exact hk b' off hn rfl g1 h3).loose (c := 0) (.inr (by rw [e]; exact ⟨g1, g2⟩))

theorem Sl.onlyS (h : Sl size f w lo hi A n l) {x : Nat × Nat} (g : Only x.1 x.2 w w') {c : Nat} (hd : offS (spanOf (A, n, c)) x) : Sl size f w' lo hi A n l :=
  h.keepB g.size fun b off hn e _ hb => g.block b hb (by
    subst e
    rw [spanOf_pos b off c hn] at hd
    rcases hd with hd | hd
    · exact .inl (by simp at hd; omega)
    · exact .inr hd)
end

/-- The slice value `.slice A n c` holds handles, and each handle its own list. -/
structure Nest {α : Type} (size : Nat) (f : α → List Value) (w : World) (lo hi : Nat) (A : Option Addr) (n : Nat) (R : List (Hd × List α)) : Prop where
  outer : Sl 1 sv w lo hi A n (R.map (·.1))
  rows : ∀ r ∈ R, Sl size f w lo hi r.1.1 r.1.2.1 r.2 ∧ r.1.2.1 ≤ 1048576
  apart : R.Pairwise fun r s => offS (spanOf r.1) (spanOf s.1)
  away : ∀ r ∈ R, offS (spanOf (A, n, 0)) (spanOf r.1)

section
variable {α : Type} {size : Nat} {f : α → List Value} {w w' : World} {lo hi n : Nat} {A : Option Addr} {R : List (Hd × List α)}

theorem Nest.len (h : Nest size f w lo hi A n R) : R.length = n := by have := h.outer.len; rwa [List.length_map] at this
theorem Nest.nil_ : Nest size f w lo hi A 0 ([] : List (Hd × List α)) := ⟨Sl.nil_, fun _ h => (List.not_mem_nil h).elim, List.Pairwise.nil, fun _ h => (List.not_mem_nil h).elim⟩
theorem Nest.keep (h : Nest size f w lo hi A n R) (hs : w.heap.size ≤ w'.heap.size) (hk : ∀ b, lo ≤ b → b < hi → b < w.heap.size → w'.heap[b]? = w.heap[b]?) : Nest size f w' lo hi A n R :=
  ⟨h.outer.keep hs hk, fun r hr => ⟨(h.rows r hr).1.keep hs hk, (h.rows r hr).2⟩, h.apart, h.away⟩
theorem Nest.below {B : Nat} (h : Nest size f w lo hi A n R) (hb : Below B w w') (hB : hi ≤ B ∨ w.heap.size ≤ B) : Nest size f w' lo hi A n R :=
  h.keep hb.size fun b _ h2 h3 => hb.block b (by omega)
theorem Nest.only {lo' hi' : Nat} (h : Nest size f w lo hi A n R) (g : Only lo' hi' w w') (hd : hi ≤ lo' ∨ hi' ≤ lo) : Nest size f w' lo hi A n R :=
  h.keep g.size fun b h1 h2 h3 => g.block b h3 (by omega)
theorem Nest.more {lo' hi' : Nat} (h : Nest size f w lo hi A n R) (h1 : lo' ≤ lo) (h2 : hi ≤ hi') : Nest size f w lo' hi' A n R :=
  ⟨h.outer.more h1 h2, fun r hr => ⟨(h.rows r hr).1.more h1 h2, (h.rows r hr).2⟩, h.apart, h.away⟩
theorem Nest.top (h : Nest size f w lo hi A n R) : Nest size f w lo w.heap.size A n R :=
  ⟨h.outer.top, fun r hr => ⟨(h.rows r hr).1.top, (h.rows r hr).2⟩, h.apart, h.away⟩
theorem Nest.drewN (h : Nest size f w lo hi A n R) (k : Nat) : Nest size f (w.drewN k) lo hi A n R := h.keep (Nat.le_refl _) fun _ _ _ _ => rfl

theorem Nest.get (h : Nest size f w lo hi A n R) {k : Nat} (hk : k < n) :
    ∃ b off Ah nh ch s, A = some ⟨b, off, none⟩ ∧ lo ≤ b ∧ b < hi ∧ b < w.heap.size ∧ R[k]? = some ((Ah, nh, ch), s) ∧ w.cell? ⟨b, off + k, none⟩ = some (.slice Ah nh ch) ∧ w.frozen? ⟨b, off + k, none⟩ = false ∧ Sl size f w lo hi Ah nh s ∧ nh ≤ 1048576 := by
  obtain ⟨b, off, e, g1, g2, g3, hc⟩ := h.outer.at_ (by omega)
  have hkl : k < R.length := by rw [h.len]; exact hk
  obtain ⟨⟨⟨Ah, nh, ch⟩, s⟩, hr⟩ : ∃ r, R[k]? = some r := ⟨_, List.getElem?_eq_getElem hkl⟩
  have h0 := hc k (Ah, nh, ch) (by rw [List.getElem?_map, hr]; rfl) 0 _ rfl
  simp only [Nat.mul_one, Nat.add_zero] at h0
  have h1 := h.rows _ (List.mem_of_getElem? hr)
  exact ⟨b, off, Ah, nh, ch, s, e, g1, g2, g3, hr, h0.1, h0.2, h1.1, h1.2⟩

theorem pairwise_at {β : Type} {p : β → β → Prop} (hp : ∀ x y, p x y → p y x) {R : List β} (h : R.Pairwise p) {i j : Nat} {x y : β} (hi : R[i]? = some x) (hj : R[j]? = some y) (hne : i ≠ j) : p x y := by
  obtain ⟨hi', rfl⟩ := List.getElem?_eq_some_iff.1 hi
  obtain ⟨hj', rfl⟩ := List.getElem?_eq_some_iff.1 hj
  rcases Nat.lt_or_ge i j with hlt | hge
  · exact List.pairwise_iff_getElem.1 h i j hi' hj' hlt
  · exact hp _ _ (List.pairwise_iff_getElem.1 h j i hj' hi' (by omega))

/-- One row written anew, nothing else touched. -/
theorem Nest.put (h : Nest size f w lo hi A n R) {k : Nat} {Ah : Option Addr} {nh ch : Nat} {s s' : List α} (hr : R[k]? = some ((Ah, nh, ch), s))
    (g : Only (spanOf (Ah, nh, ch)).1 (spanOf (Ah, nh, ch)).2 w w') (hs : Sl size f w' (spanOf (Ah, nh, ch)).1 (spanOf (Ah, nh, ch)).2 Ah nh s') :
    Nest size f w' lo hi A n (R.set k ((Ah, nh, ch), s')) ∧ Only lo hi w w' := by
  have hk : k < R.length := (List.getElem?_eq_some_iff.1 hr).1
  have hm := List.mem_of_getElem? hr
  have e : (R.set k ((Ah, nh, ch), s')).map (·.1) = R.map (·.1) := by
    apply List.ext_getElem?
    intro i
    rw [List.getElem?_map, List.getElem?_map]
    by_cases hi : k = i
    · subst hi
      rw [List.getElem?_set_self hk, hr]
      rfl
    · rw [List.getElem?_set_ne hi]
  have h1 : Sl size f w lo hi Ah nh s ∧ nh ≤ 1048576 := h.rows _ hm
  refine ⟨⟨by rw [e]; exact h.outer.onlyS g (h.away _ hm), fun r hr' => ?_, ?_, fun r hr' => ?_⟩, ⟨g.os, g.tape, g.output, g.size, fun b hb ho => g.block b hb ?_⟩⟩
  · obtain ⟨i, hi⟩ := List.getElem?_of_mem hr'
    by_cases hki : k = i
    · subst hki
      rw [List.getElem?_set_self hk] at hi
      cases hi
      refine ⟨hs.loose (c := ch) ?_, h1.2⟩
      rcases h1.1.span ch with h2 | h2
      · exact .inl h2
      · exact .inr ⟨h2.1, h2.2.1⟩
    · rw [List.getElem?_set_ne hki] at hi
      have h2 := h.rows r (List.mem_of_getElem? hi)
      exact ⟨h2.1.onlyS g (pairwise_at (fun _ _ => offS.symm) h.apart hi hr (Ne.symm hki)), h2.2⟩
  · have h2 : (R.map (·.1)).Pairwise (fun x y => offS (spanOf x) (spanOf y)) := List.pairwise_map.2 h.apart
    rw [← e] at h2
    exact (List.pairwise_map (R := fun x y => offS (spanOf x) (spanOf y))).1 h2
  · obtain ⟨i, hi⟩ := List.getElem?_of_mem hr'
    by_cases hki : k = i
    · subst hki
      rw [List.getElem?_set_self hk] at hi
      cases hi
      have h9 := h.away _ hm
      exact h9
    · rw [List.getElem?_set_ne hki] at hi
      exact h.away _ (List.mem_of_getElem? hi)
  · rcases h1.1.span ch with h2 | h2
    · rw [h2]
      exact .inr (Nat.zero_le _)
    · omega
end

/-- The same, the outer row of the call's own: it may grow. -/
structure NestO {α : Type} (size : Nat) (f : α → List Value) (w : World) (base : Nat) (e : TypeId) (A : Option Addr) (n c : Nat) (R : List (Hd × List α)) : Prop where
  outer : Own 1 sv w base e A n c (R.map (·.1))
  rows : ∀ r ∈ R, Sl size f w base w.heap.size r.1.1 r.1.2.1 r.2 ∧ r.1.2.1 ≤ 1048576
  apart : R.Pairwise fun r s => offS (spanOf r.1) (spanOf s.1)
  away : ∀ r ∈ R, ∀ g, (Value.slice A n c).ownBlock = some g → offS (g, g + 1) (spanOf r.1)

section
variable {α : Type} {size : Nat} {f : α → List Value} {w w' : World} {base n c : Nat} {e : TypeId} {A : Option Addr} {R : List (Hd × List α)}

theorem NestO.len (h : NestO size f w base e A n c R) : R.length = n := by have := h.outer.len; rwa [List.length_map] at this
theorem NestO.nil_ (w : World) (base : Nat) (e : TypeId) : NestO size f w base e none 0 0 ([] : List (Hd × List α)) := ⟨Own.nil_ _ _ _, fun _ h => (List.not_mem_nil h).elim, List.Pairwise.nil, fun _ h => (List.not_mem_nil h).elim⟩
theorem NestO.made (w : World) {base : Nat} (e : TypeId) (hb : base ≤ w.heap.size) : NestO size f (w.alloc (.cells #[] e)) base e (some ⟨w.heap.size, 0, none⟩) 0 0 ([] : List (Hd × List α)) :=
  ⟨Own.made w e hb, fun _ h => (List.not_mem_nil h).elim, List.Pairwise.nil, fun _ h => (List.not_mem_nil h).elim⟩
theorem NestO.keep (h : NestO size f w base e A n c R) (hs : w.heap.size ≤ w'.heap.size) (hk : ∀ b, base ≤ b → b < w.heap.size → w'.heap[b]? = w.heap[b]?) : NestO size f w' base e A n c R :=
  ⟨h.outer.keep fun g hg => hk g (h.outer.lt g hg).1 (h.outer.lt g hg).2, fun r hr => ⟨((h.rows r hr).1.keep hs fun b h1 _ h3 => hk b h1 h3).more (Nat.le_refl _) hs, (h.rows r hr).2⟩, h.apart, h.away⟩
theorem NestO.below {B : Nat} (h : NestO size f w base e A n c R) (hb : Below B w w') (hB : w.heap.size ≤ B) : NestO size f w' base e A n c R := h.keep hb.size fun b _ h2 => hb.block b (by omega)

/-- One more row, which was made after the outer one. -/
theorem NestO.push {w0 w2 : World} (h : NestO size f w0 base e A n c R) (hb : Below w0.heap.size w0 w) {Ah : Option Addr} {nh ch : Nat} {s : List α} (x : Sl size f w w0.heap.size w.heap.size Ah nh s) (hn : nh ≤ 1048576)
    {A' : Option Addr} {c' : Nat} (hO : Own 1 sv w2 base e A' (n + 1) c' (R.map (·.1) ++ [(Ah, nh, ch)])) (hg : w.grownBy w2 (Value.slice A n c).ownBlock)
    (hne : (Value.slice A' (n + 1) c').ownBlock = (Value.slice A n c).ownBlock ∨ (Value.slice A' (n + 1) c').ownBlock = some w.heap.size) (hbase : base ≤ w0.heap.size) :
    NestO size f w2 base e A' (n + 1) c' (R ++ [((Ah, nh, ch), s)]) := by
  have hz := hb.size
  have hz2 := hg.size
  have hold : ∀ r ∈ R, spanOf r.1 = (0, 0) ∨ (base ≤ (spanOf r.1).1 ∧ (spanOf r.1).2 ≤ w0.heap.size) := fun r hr => by
    rcases (h.rows r hr).1.span r.1.2.2 with h1 | h1
    · exact .inl h1
    · exact .inr ⟨h1.1, h1.2.1⟩
  have hnew : spanOf (Ah, nh, ch) = (0, 0) ∨ (w0.heap.size ≤ (spanOf (Ah, nh, ch)).1 ∧ (spanOf (Ah, nh, ch)).2 ≤ w.heap.size) := by
    rcases x.span ch with h1 | h1
    · exact .inl h1
    · exact .inr ⟨h1.1, h1.2.1⟩
  refine ⟨by rw [List.map_append]; exact hO, fun r hr => ?_, List.pairwise_append.2 ⟨h.apart, List.pairwise_singleton _ _, fun r hr q hq => ?_⟩, fun r hr g hgq => ?_⟩
  · rcases List.mem_append.1 hr with hr | hr
    · have h1 := h.rows r hr
      refine ⟨(((h1.1.below hb (.inr (Nat.le_refl _))).more (Nat.le_refl _) (by omega : w0.heap.size ≤ w2.heap.size)).keepB hz2 fun b off hp e1 _ hb1 => hg.block b hb1 fun e2 => ?_), h1.2⟩
      have h2 := h.away r hr b e2.symm
      have h3 : spanOf r.1 = (b, b + 1) := by
        have h4 := spanOf_pos b off r.1.2.2 hp
        rw [← e1] at h4
        exact h4
      rw [h3] at h2
      rcases h2 with h2 | h2 <;> simp at h2 <;> omega
    · rw [List.mem_singleton.1 hr]
      refine ⟨((x.more hbase (by omega : w.heap.size ≤ w2.heap.size)).keepB hz2 fun b off hp e1 _ hb1 => hg.block b hb1 fun e2 => ?_), hn⟩
      have h2 := (h.outer.lt b e2.symm).2
      have h3 := spanOf_pos b off ch hp
      rw [← e1] at h3
      rw [h3] at hnew
      simp at hnew
      omega
  · rw [List.mem_singleton.1 hq]
    rcases hold r hr with h1 | h1
    · rw [h1]; exact .inl (Nat.zero_le _)
    · rcases hnew with h2 | h2
      · rw [h2]; exact .inr (Nat.zero_le _)
      · exact .inl (by show (spanOf r.1).2 ≤ (spanOf (Ah, nh, ch)).1; omega)
  · rcases hne with hne | hne
    · rw [hne] at hgq
      rcases List.mem_append.1 hr with hr | hr
      · exact h.away r hr g hgq
      · rw [List.mem_singleton.1 hr]
        have h2 := (h.outer.lt g hgq).2
        rcases hnew with h3 | h3
        · rw [h3]; exact .inr (Nat.zero_le _)
        · exact .inl (by show g + 1 ≤ (spanOf (Ah, nh, ch)).1; omega)
    · rw [hne] at hgq
      injection hgq with hgq
      subst hgq
      rcases List.mem_append.1 hr with hr | hr
      · rcases hold r hr with h1 | h1
        · rw [h1]; exact .inr (Nat.zero_le _)
        · exact .inr (by show (spanOf r.1).2 ≤ w.heap.size; omega)
      · rw [List.mem_singleton.1 hr]
        rcases hnew with h3 | h3
        · rw [h3]; exact .inr (Nat.zero_le _)
        · exact .inr h3.2
end

/-- How many elements the first k handles have. -/
def preH (H : List Hd) (k : Nat) : Nat := ((H.take k).map (·.2.1)).sum
/-- The first k rows hold their marks. -/
def MarkedK {α : Type} (mk : Int → α) (step : Nat) (m : Int) (k : Nat) (R : List (Hd × List α)) : Prop :=
  ∀ (i : Nat) (r : Hd × List α), i < k → R[i]? = some r → ∀ j : Nat, j < r.1.2.1 → r.2[j]? = some (mk (m + step * (preH (R.map (·.1)) i + j : Nat)))
theorem MarkedK.zero {α : Type} (mk : Int → α) (step : Nat) (m : Int) (R : List (Hd × List α)) : MarkedK mk step m 0 R := fun i r hi => absurd hi (by omega)
theorem handles_set {α : Type} {R : List (Hd × List α)} {k : Nat} {h : Hd} {s s' : List α} (hr : R[k]? = some (h, s)) : (R.set k (h, s')).map (·.1) = R.map (·.1) := by
  apply List.ext_getElem?
  intro i
  rw [List.getElem?_map, List.getElem?_map]
  by_cases hi : k = i
  · subst hi
    rw [List.getElem?_set_self (List.getElem?_eq_some_iff.1 hr).1, hr]
    rfl
  · rw [List.getElem?_set_ne hi]
theorem MarkedK.step {α : Type} {mk : Int → α} {step : Nat} {m : Int} {k : Nat} {R : List (Hd × List α)} (h : MarkedK mk step m k R) {Ah : Option Addr} {nh ch : Nat} {s s' : List α} (hr : R[k]? = some ((Ah, nh, ch), s))
    (hs : ∀ j : Nat, j < nh → s'[j]? = some (mk (m + step * (preH (R.map (·.1)) k + j : Nat)))) : MarkedK mk step m (k + 1) (R.set k ((Ah, nh, ch), s')) := by
  intro i r hi hr' j hj
  rw [handles_set hr]
  by_cases hki : k = i
  · subst hki
    rw [List.getElem?_set_self (List.getElem?_eq_some_iff.1 hr).1] at hr'
    cases hr'
    exact hs j hj
  · rw [List.getElem?_set_ne hki] at hr'
    exact h i r (by omega) hr' j hj

end Go.Proofs.Ythmhlbkkhaplkaa

namespace Go.Proofs.Ythmhlbkkhaplkaa
open Go.RowKit

theorem Only.trans {lo hi : Nat} {a b c : World} (h : Only lo hi a b) (g : Only lo hi b c) : Only lo hi a c :=
  ⟨g.os.trans h.os, g.tape.trans h.tape, g.output.trans h.output, Nat.le_trans h.size g.size, fun k hb hc => (g.block k (Nat.lt_of_lt_of_le hb h.size) hc).trans (h.block k hb hc)⟩
theorem Only.more {lo hi lo' hi' : Nat} {a b : World} (h : Only lo hi a b) (h1 : lo' ≤ lo) (h2 : hi ≤ hi') : Only lo' hi' a b :=
  ⟨h.os, h.tape, h.output, h.size, fun k hb hc => h.block k hb (by omega)⟩
/-- The words for a span from within a larger one. -/
theorem Only.span {lo hi : Nat} {a b : World} {x : Nat × Nat} (h : Only x.1 x.2 a b) (hs : x = (0, 0) ∨ (lo ≤ x.1 ∧ x.2 ≤ hi)) : Only lo hi a b :=
  ⟨h.os, h.tape, h.output, h.size, fun k hb hc => h.block k hb (by
    rcases hs with hs | hs
    · rw [hs]; exact .inr (Nat.zero_le _)
    · omega)⟩

/-- A list of elements, each with what its handle holds; all of it in [lo, hi). Nothing is said of different rows. -/
structure RowsG {β α : Type} (hd : β → Hd) (osz : Nat) (g : β → List Value) (size : Nat) (f : α → List Value) (most : Nat) (w : World) (lo hi : Nat) (A : Option Addr) (n : Nat) (R : List (β × List α)) : Prop where
  outer : Sl osz g w lo hi A n (R.map (·.1))
  rows : ∀ r ∈ R, Sl size f w lo hi (hd r.1).1 (hd r.1).2.1 r.2 ∧ (hd r.1).2.1 ≤ most

/-- The same, all rows in different blocks. -/
structure NestG {β α : Type} (hd : β → Hd) (osz : Nat) (g : β → List Value) (size : Nat) (f : α → List Value) (w : World) (lo hi : Nat) (A : Option Addr) (n : Nat) (R : List (β × List α)) : Prop where
  all : RowsG hd osz g size f 1048576 w lo hi A n R
  apart : R.Pairwise fun r s => offS (spanOf (hd r.1)) (spanOf (hd s.1))
  away : ∀ r ∈ R, offS (spanOf (A, n, 0)) (spanOf (hd r.1))

section
variable {β α : Type} {hd : β → Hd} {osz : Nat} {g : β → List Value} {size most : Nat} {f : α → List Value} {w w' : World} {lo hi n : Nat} {A : Option Addr} {R : List (β × List α)}

theorem RowsG.len (h : RowsG hd osz g size f most w lo hi A n R) : R.length = n := by have := h.outer.len; rwa [List.length_map] at this
theorem RowsG.nil_ : RowsG hd osz g size f most w lo hi A 0 ([] : List (β × List α)) := ⟨Sl.nil_, fun _ h => (List.not_mem_nil h).elim⟩
theorem RowsG.keep (h : RowsG hd osz g size f most w lo hi A n R) (hs : w.heap.size ≤ w'.heap.size) (hk : ∀ b, lo ≤ b → b < hi → b < w.heap.size → w'.heap[b]? = w.heap[b]?) : RowsG hd osz g size f most w' lo hi A n R :=
  ⟨h.outer.keep hs hk, fun r hr => ⟨(h.rows r hr).1.keep hs hk, (h.rows r hr).2⟩⟩
theorem RowsG.below {B : Nat} (h : RowsG hd osz g size f most w lo hi A n R) (hb : Below B w w') (hB : hi ≤ B ∨ w.heap.size ≤ B) : RowsG hd osz g size f most w' lo hi A n R :=
  h.keep hb.size fun b _ h2 h3 => hb.block b (by omega)
theorem RowsG.only {lo' hi' : Nat} (h : RowsG hd osz g size f most w lo hi A n R) (o : Only lo' hi' w w') (hd' : hi ≤ lo' ∨ hi' ≤ lo) : RowsG hd osz g size f most w' lo hi A n R :=
  h.keep o.size fun b h1 h2 h3 => o.block b h3 (by omega)
theorem RowsG.more {lo' hi' : Nat} (h : RowsG hd osz g size f most w lo hi A n R) (h1 : lo' ≤ lo) (h2 : hi ≤ hi') : RowsG hd osz g size f most w lo' hi' A n R :=
  ⟨h.outer.more h1 h2, fun r hr => ⟨(h.rows r hr).1.more h1 h2, (h.rows r hr).2⟩⟩
theorem RowsG.top (h : RowsG hd osz g size f most w lo hi A n R) : RowsG hd osz g size f most w lo w.heap.size A n R := ⟨h.outer.top, fun r hr => ⟨(h.rows r hr).1.top, (h.rows r hr).2⟩⟩
/-- Element k. -/
theorem RowsG.get (h : RowsG hd osz g size f most w lo hi A n R) {k : Nat} (hk : k < n) :
    ∃ b off x s, A = some ⟨b, off, none⟩ ∧ lo ≤ b ∧ b < hi ∧ b < w.heap.size ∧ R[k]? = some (x, s) ∧
      (∀ (j : Nat) (u : Value), (g x)[j]? = some u → w.cell? ⟨b, off + (k * osz + j), none⟩ = some u ∧ w.frozen? ⟨b, off + (k * osz + j), none⟩ = false) ∧ Sl size f w lo hi (hd x).1 (hd x).2.1 s ∧ (hd x).2.1 ≤ most := by
  obtain ⟨b, off, e, g1, g2, g3, hc⟩ := h.outer.at_ (by omega)
  have hkl : k < R.length := by rw [h.len]; exact hk
  obtain ⟨⟨x, s⟩, hr⟩ : ∃ r, R[k]? = some r := ⟨_, List.getElem?_eq_getElem hkl⟩
  have h1 := h.rows _ (List.mem_of_getElem? hr)
  exact ⟨b, off, x, s, e, g1, g2, g3, hr, hc k x (by rw [List.getElem?_map, hr]; rfl), h1.1, h1.2⟩

theorem NestG.len (h : NestG hd osz g size f w lo hi A n R) : R.length = n := h.all.len
theorem NestG.nil_ : NestG hd osz g size f w lo hi A 0 ([] : List (β × List α)) := ⟨RowsG.nil_, List.Pairwise.nil, fun _ h => (List.not_mem_nil h).elim⟩
theorem NestG.keep (h : NestG hd osz g size f w lo hi A n R) (hs : w.heap.size ≤ w'.heap.size) (hk : ∀ b, lo ≤ b → b < hi → b < w.heap.size → w'.heap[b]? = w.heap[b]?) : NestG hd osz g size f w' lo hi A n R := ⟨h.all.keep hs hk, h.apart, h.away⟩
theorem NestG.below {B : Nat} (h : NestG hd osz g size f w lo hi A n R) (hb : Below B w w') (hB : hi ≤ B ∨ w.heap.size ≤ B) : NestG hd osz g size f w' lo hi A n R := ⟨h.all.below hb hB, h.apart, h.away⟩
theorem NestG.only {lo' hi' : Nat} (h : NestG hd osz g size f w lo hi A n R) (o : Only lo' hi' w w') (hd' : hi ≤ lo' ∨ hi' ≤ lo) : NestG hd osz g size f w' lo hi A n R := ⟨h.all.only o hd', h.apart, h.away⟩
theorem NestG.more {lo' hi' : Nat} (h : NestG hd osz g size f w lo hi A n R) (h1 : lo' ≤ lo) (h2 : hi ≤ hi') : NestG hd osz g size f w lo' hi' A n R := ⟨h.all.more h1 h2, h.apart, h.away⟩
theorem NestG.top (h : NestG hd osz g size f w lo hi A n R) : NestG hd osz g size f w lo w.heap.size A n R := ⟨h.all.top, h.apart, h.away⟩

/-- What element k's handle holds written anew, nothing else touched. -/
theorem NestG.put (h : NestG hd osz g size f w lo hi A n R) {k : Nat} {x : β} {s s' : List α} (hr : R[k]? = some (x, s))
    (o : Only (spanOf (hd x)).1 (spanOf (hd x)).2 w w') (hs : Sl size f w' (spanOf (hd x)).1 (spanOf (hd x)).2 (hd x).1 (hd x).2.1 s') :
    NestG hd osz g size f w' lo hi A n (R.set k (x, s')) ∧ Only lo hi w w' := by
  have hk : k < R.length := (List.getElem?_eq_some_iff.1 hr).1
  have hm := List.mem_of_getElem? hr
  have e : (R.set k (x, s')).map (·.1) = R.map (·.1) := by
    apply List.ext_getElem?
    intro i
    rw [List.getElem?_map, List.getElem?_map]
    by_cases hi : k = i
    · subst hi
      rw [List.getElem?_set_self hk, hr]
      rfl
    · rw [List.getElem?_set_ne hi]
  have h1 : Sl size f w lo hi (hd x).1 (hd x).2.1 s ∧ (hd x).2.1 ≤ 1048576 := h.all.rows _ hm
  have hsp : spanOf (hd x) = (0, 0) ∨ (lo ≤ (spanOf (hd x)).1 ∧ (spanOf (hd x)).2 ≤ hi ∧ (spanOf (hd x)).2 ≤ w.heap.size) := h1.1.span (hd x).2.2
  refine ⟨⟨⟨by rw [e]; exact h.all.outer.onlyS (c := 0) o (h.away _ hm), fun r hr' => ?_⟩, ?_, fun r hr' => ?_⟩, o.span (by rcases hsp with h2 | h2; exact .inl h2; exact .inr ⟨h2.1, h2.2.1⟩)⟩
  · obtain ⟨i, hi⟩ := List.getElem?_of_mem hr'
    by_cases hki : k = i
    · subst hki
      rw [List.getElem?_set_self hk] at hi
      cases hi
      refine ⟨Sl.loose (c := (hd x).2.2) hs ?_, h1.2⟩
      rcases hsp with h2 | h2
      · exact .inl h2
      · exact .inr ⟨h2.1, h2.2.1⟩
    · rw [List.getElem?_set_ne hki] at hi
      have h2 := h.all.rows r (List.mem_of_getElem? hi)
      exact ⟨h2.1.onlyS (c := (hd r.1).2.2) o (pairwise_at (fun _ _ => offS.symm) h.apart hi hr (Ne.symm hki)), h2.2⟩
  · have h2 : (R.map (·.1)).Pairwise (fun x y => offS (spanOf (hd x)) (spanOf (hd y))) := List.pairwise_map.2 h.apart
    rw [← e] at h2
    exact (List.pairwise_map (R := fun x y => offS (spanOf (hd x)) (spanOf (hd y)))).1 h2
  · obtain ⟨i, hi⟩ := List.getElem?_of_mem hr'
    by_cases hki : k = i
    · subst hki
      rw [List.getElem?_set_self hk] at hi
      cases hi
      have h9 := h.away _ hm
      exact h9
    · rw [List.getElem?_set_ne hki] at hi
      exact h.away _ (List.mem_of_getElem? hi)

end

/-- A row of elements being made in block B, the first k laid, each handle's row made after it. -/
structure NestF {β α : Type} (hd : β → Hd) (osz : Nat) (g : β → List Value) (size : Nat) (f : α → List Value) (w : World) (B : Nat) (t : TypeId) (n k : Nat) (R : List (β × List α)) : Prop where
  len : R.length = k
  fill : Fill osz g w B t n k (R.map (·.1))
  rows : ∀ r ∈ R, Sl size f w (B + 1) w.heap.size (hd r.1).1 (hd r.1).2.1 r.2 ∧ (hd r.1).2.1 ≤ 1048576
  apart : R.Pairwise fun r s => offS (spanOf (hd r.1)) (spanOf (hd s.1))

section
variable {β α : Type} {hd : β → Hd} {osz : Nat} {g : β → List Value} {size : Nat} {f : α → List Value} {w w1 w2 : World} {B n k : Nat} {t : TypeId} {R : List (β × List α)}

theorem NestF.start (w : World) (t : TypeId) (cur : Array Value) (n : Nat) (hs : cur.size = n * osz) : NestF hd osz g size f (w.alloc (.cells cur t)) w.heap.size t n 0 ([] : List (β × List α)) :=
  ⟨rfl, Fill.start w t cur n hs, fun _ h => (List.not_mem_nil h).elim, List.Pairwise.nil⟩

/-- A row was made: the new element's. -/
theorem NestF.keep (h : NestF hd osz g size f w B t n k R) (hb : Below w.heap.size w w1) : NestF hd osz g size f w1 B t n k R :=
  ⟨h.len, h.fill.keep (hb.block _ h.fill.lt), fun r hr => ⟨((h.rows r hr).1.below hb (.inr (Nat.le_refl _))).more (Nat.le_refl _) hb.size, (h.rows r hr).2⟩, h.apart⟩

/-- One more element, whose row was made just now (between w and w1), laid in B. -/
theorem NestF.push (h : NestF hd osz g size f w B t n k R) (hb : Below w.heap.size w w1) {x : β} {s : List α} (hx : Sl size f w1 w.heap.size w1.heap.size (hd x).1 (hd x).2.1 s) (hn : (hd x).2.1 ≤ 1048576)
    (ho : Only B (B + 1) w1 w2) (hf : Fill osz g w2 B t n (k + 1) ((R.map (·.1)) ++ [x])) : NestF hd osz g size f w2 B t n (k + 1) (R ++ [(x, s)]) := by
  have hlt := h.fill.lt
  have hz := hb.size
  have hz2 := ho.size
  have h1 := h.keep hb
  refine ⟨by rw [List.length_append, h.len]; rfl, by rw [List.map_append]; exact hf, fun r hr => ?_, List.pairwise_append.2 ⟨h.apart, List.pairwise_singleton _ _, fun r hr q hq => ?_⟩⟩
  · rcases List.mem_append.1 hr with hr | hr
    · have h2 := h1.rows r hr
      exact ⟨(h2.1.only ho (.inr (Nat.le_refl _))).more (Nat.le_refl _) hz2, h2.2⟩
    · rw [List.mem_singleton.1 hr]
      exact ⟨(hx.only ho (.inr (by omega))).more (by omega) hz2, hn⟩
  · rw [List.mem_singleton.1 hq]
    have h2 := (h.rows r hr).1.span (hd r.1).2.2
    have h3 := hx.span (hd x).2.2
    show offS (spanOf (hd r.1)) (spanOf (hd x))
    rcases h2 with h2 | h2
    · have h2 : spanOf (hd r.1) = (0, 0) := h2
      rw [h2]; exact .inl (Nat.zero_le _)
    · rcases h3 with h3 | h3
      · have h3 : spanOf (hd x) = (0, 0) := h3
        rw [h3]; exact .inr (Nat.zero_le _)
      · exact .inl (Nat.le_trans h2.2.2 h3.1)

theorem NestF.done (h : NestF hd osz g size f w B t n n R) : NestG hd osz g size f w B w.heap.size (some ⟨B, 0, none⟩) n R := by
  have hlt := h.fill.lt
  refine ⟨⟨h.fill.done (by rw [List.length_map, h.len]) (Nat.le_refl _) hlt, fun r hr => ⟨(h.rows r hr).1.more (Nat.le_succ _) (Nat.le_refl _), (h.rows r hr).2⟩⟩, h.apart, fun r hr => ?_⟩
  rcases Nat.eq_zero_or_pos n with rfl | hn
  · rw [spanOf_zero]; exact .inl (Nat.zero_le _)
  · rw [spanOf_pos B 0 0 hn]
    have h2 := (h.rows r hr).1.span (hd r.1).2.2
    rcases h2 with h2 | h2
    · have h2 : spanOf (hd r.1) = (0, 0) := h2
      rw [h2]; exact .inr (Nat.zero_le _)
    · exact .inl h2.1
end

end Go.Proofs.Ythmhlbkkhaplkaa

namespace Go.Proofs.Ythmhlbkkhaplkaa
open Go.ChangeShapes Go.WideShapes Go.ChangeAt Go.RowKit Go.Deep
set_option linter.unusedVariables false

def ArgI (w : World) (lo hi : Nat) (v : Value) (d : List Int) : Prop := ∃ A n c, v = .slice A n c ∧ n ≤ maxLen ∧ SlI w lo hi A n d
section
variable {w w' : World} {lo hi lo' hi' B : Nat} {v : Value} {d : List Int}
theorem ArgI.below (h : ArgI w lo hi v d) (hb : Below B w w') (hB : hi ≤ B ∨ w.heap.size ≤ B) : ArgI w' lo hi v d := by
  obtain ⟨A, n, c, h1, h2, h3⟩ := h
  exact ⟨A, n, c, h1, h2, h3.below hb hB⟩
theorem ArgI.more (h : ArgI w lo hi v d) (h1 : lo' ≤ lo) (h2 : hi ≤ hi') : ArgI w lo' hi' v d := by
  obtain ⟨A, n, c, q1, q2, q3⟩ := h
  exact ⟨A, n, c, q1, q2, q3.more h1 h2⟩
theorem ArgI.only (h : ArgI w lo hi v d) (g : Only lo' hi' w w') (hd : hi ≤ lo' ∨ hi' ≤ lo) : ArgI w' lo hi v d := by
  obtain ⟨A, n, c, h1, h2, h3⟩ := h
  exact ⟨A, n, c, h1, h2, h3.only g hd⟩
end

section
variable {H : Type} {enc : TypeId × Value → H} {P : Program} {w : World} {base : Nat} {spare : Nat → Bool} {held : Bool}
end

/-- Cells written one behind the other. -/
def putCells (w : World) (b : Nat) : Nat → List Value → World
  | _, [] => w
  | off, u :: us => putCells (w.setCell ⟨b, off, none⟩ u) b (off + 1) us

theorem putCells_row (b : Nat) (t : TypeId) (us : List Value) : ∀ (w : World) (off : Nat) (cur : Array Value), w.heap[b]? = some (.cells cur t (0, 0)) →
    ∃ cur', (putCells w b off us).heap[b]? = some (.cells cur' t (0, 0)) ∧ cur'.size = cur.size ∧ (∀ i, i < off → cur'[i]? = cur[i]?) ∧ (∀ j u, us[j]? = some u → off + us.length ≤ cur.size → cur'[off + j]? = some u) := by
  induction us with
  | nil => exact fun w off cur h => ⟨cur, h, rfl, fun _ _ => rfl, fun j u hu => by simp at hu⟩
  | cons v us ih =>
    intro w off cur h
    obtain ⟨cur', h1, h2, h3, h4⟩ := ih (w.setCell ⟨b, off, none⟩ v) (off + 1) (cur.setIfInBounds off v) (heap_setCell_same w b off cur t v h)
    refine ⟨cur', h1, by rw [h2]; simp, fun i hi => ?_, fun j u hu hl => ?_⟩
    · rw [h3 i (by omega), Array.getElem?_setIfInBounds_ne (by omega)]
    · simp only [List.length_cons] at hl
      cases j with
      | zero =>
        simp at hu
        subst hu
        rw [Nat.add_zero, h3 off (by omega)]
        simp [Array.getElem?_setIfInBounds]
        omega
      | succ j =>
        simp at hu
        have := h4 j u hu (by simp; omega)
        rwa [show off + (j + 1) = off + 1 + j by omega]
/-- Element k laid by putCells. -/
theorem Fill.putN {α : Type} {size : Nat} {f : α → List Value} {w : World} {B n k : Nat} {t : TypeId} {l : List α} (h : Fill size f w B t n k l) (hk : k < n) (hlen : ∀ x, (f x).length = size) {x : α} (hx : l[k]? = some x) :
    Fill size f (putCells w B (k * size) (f x)) B t n (k + 1) l :=
  h.step hlen hx fun cur hc hs => by
    obtain ⟨cur', h1, h2, h3, h4⟩ := putCells_row B t (f x) w (k * size) cur hc
    refine ⟨cur', h1, h2, h3, fun j u hu => h4 j u hu ?_⟩
    rw [hlen x, hs]
    have := Nat.mul_le_mul_right size (show k + 1 ≤ n by omega)
    rw [Nat.add_mul] at this
    omega
/-- The first cells of an element of a row that is there written anew. -/
theorem Sl.putPre {α : Type} {size : Nat} {f : α → List Value} {w : World} {lo hi n b off : Nat} {l : List α} (h : Sl size f w lo hi (some ⟨b, off, none⟩) n l) {k : Nat} {x0 : α} (hx0 : l[k]? = some x0) (hlen : ∀ x, (f x).length = size) (x : α)
    (us : List Value) (hus : us.length ≤ size) (hpre : ∀ j u, j < us.length → (f x)[j]? = some u → us[j]? = some u) (hrest : ∀ j u, us.length ≤ j → (f x)[j]? = some u → (f x0)[j]? = some u) :
    Sl size f (putCells w b (off + k * size) us) lo hi (some ⟨b, off, none⟩) n (l.set k x) := by
  have key : ∀ (us : List Value) (W : World) (o : Nat),
      (∀ (q : Addr), (putCells W b o us).frozen? q = W.frozen? q) ∧ (putCells W b o us).heap.size = W.heap.size ∧
      (∀ i, (i < o ∨ o + us.length ≤ i) → (putCells W b o us).cell? ⟨b, i, none⟩ = W.cell? ⟨b, i, none⟩) ∧
      ((∀ j, j < us.length → ∃ v, W.cell? ⟨b, o + j, none⟩ = some v) → ∀ j u, us[j]? = some u → (putCells W b o us).cell? ⟨b, o + j, none⟩ = some u) := by
    intro us
    induction us with
    | nil => exact fun W o => ⟨fun _ => rfl, rfl, fun _ _ => rfl, fun _ j u hu => by simp at hu⟩
    | cons v us ih =>
      intro W o
      obtain ⟨i1, i2, i3, i4⟩ := ih (W.setCell ⟨b, o, none⟩ v) (o + 1)
      refine ⟨fun q => (i1 q).trans (World.frozen?_setCell W _ q v), by rw [putCells, i2, World.size_setCell], fun i hi => ?_, fun hc j u hu => ?_⟩
      · simp only [List.length_cons] at hi
        refine (i3 i (by omega)).trans (World.cell?_setCell_other _ _ _ _ (by intro e; injection e with _ e _; omega))
      · cases j with
        | zero =>
          simp at hu
          subst hu
          obtain ⟨v0, hv0⟩ := hc 0 (by simp)
          exact (i3 o (by omega)).trans (World.cell?_setCell_same _ _ _ hv0)
        | succ j =>
          simp at hu
          have := i4 (fun j hj => by
            obtain ⟨v1, hv1⟩ := hc (j + 1) (by simp; omega)
            exact ⟨v1, (World.cell?_setCell_other _ _ _ _ (by intro e; injection e with _ e _; omega)).trans (by rw [← hv1]; congr 2; omega)⟩) j u hu
          rw [show o + (j + 1) = o + 1 + j by omega]
          exact this
  obtain ⟨k1, k2, k3, k4⟩ := key us w (off + k * size)
  have hkl : k < l.length := (List.getElem?_eq_some_iff.1 hx0).1
  have hll := h.len
  refine ⟨by rw [List.length_set]; exact h.len, fun _ => ?_⟩
  obtain ⟨b', off', e, g1, g2, g3, hc⟩ := h.at_ (by omega)
  cases e
  refine ⟨b, off, rfl, g1, g2, by rw [k2]; exact g3, fun i z hz j u hu => ?_⟩
  have hj : j < size := by rw [← hlen z]; exact (List.getElem?_eq_some_iff.1 hu).1
  rw [k1]
  by_cases hik : i = k
  · subst hik
    rw [List.getElem?_set_self hkl] at hz
    cases hz
    have hold := hc i x0 hx0
    have hex : ∀ j, j < us.length → ∃ v, w.cell? ⟨b, off + (i * size + j), none⟩ = some v ∧ w.frozen? ⟨b, off + (i * size + j), none⟩ = false := fun j hj => 
      ⟨_, hold j _ (List.getElem?_eq_getElem (by rw [hlen]; omega))⟩
    rcases Nat.lt_or_ge j us.length with hju | hju
    · refine ⟨?_, (hex j hju).choose_spec.2⟩
      rw [← Nat.add_assoc]
      exact k4 (fun j hj => by rw [Nat.add_assoc]; exact ⟨_, (hex j hj).choose_spec.1⟩) j u (hpre j u hju hu)
    · obtain ⟨h1, h2⟩ := hold j u (hrest j u hju hu)
      refine ⟨?_, h2⟩
      rw [k3 _ (by omega)]
      exact h1
  · have hil : i < l.length := by
      have := (List.getElem?_eq_some_iff.1 hz).1
      rwa [List.length_set] at this
    rw [List.getElem?_set_ne (by omega)] at hz
    obtain ⟨h1, h2⟩ := hc i z hz j u hu
    refine ⟨?_, h2⟩
    rw [k3 _ ?_]
    · exact h1
    · rcases Nat.lt_or_ge i k with hlt | hge
      · have := Nat.mul_le_mul_right size (show i + 1 ≤ k by omega)
        rw [Nat.add_mul] at this
        omega
      · have := Nat.mul_le_mul_right size (show k + 1 ≤ i by omega)
        rw [Nat.add_mul] at this
        omega
theorem Sl.putN {α : Type} {size : Nat} {f : α → List Value} {w : World} {lo hi n b off : Nat} {l : List α} (h : Sl size f w lo hi (some ⟨b, off, none⟩) n l) {k : Nat} (hk : k < n) (hlen : ∀ x, (f x).length = size) (x : α) :
    Sl size f (putCells w b (off + k * size) (f x)) lo hi (some ⟨b, off, none⟩) n (l.set k x) :=
  h.putPre (x0 := l[k]'(by rw [h.len]; exact hk)) (List.getElem?_eq_getElem _) hlen x (f x) (by rw [hlen]; exact Nat.le_refl _) (fun _ _ _ h => h) (fun j u hj hu => by
    have := (List.getElem?_eq_some_iff.1 hu).1
    omega)

end Go.Proofs.Ythmhlbkkhaplkaa
