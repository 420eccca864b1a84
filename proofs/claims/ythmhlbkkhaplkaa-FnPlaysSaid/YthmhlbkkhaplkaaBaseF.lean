/-
  Several texts in one:
  The winner's choices, one by one: plain. Conditions: a valid game.
  Plays by choices that contain the winners' strategies, smaller priorities, the players exchanged: plain. Conditions: a valid game.
  Smaller priorities for ascending ones, one after the other: plain. Conditions: none.
  Where a number lies in a list, and whether it does, by the library. Conditions: at most 1048576 elements.
  A play by choices, by the program: who wins it. Conditions: a valid game, choices that contain the winners' strategies.
  The players exchanged, and smaller priorities, by the program. Conditions: a valid game.
  The source of choices: a cell with the bytes, how far they are read, and a number that goes on behind them. Conditions: fewer than 10^9 choices are drawn.
  Ascending lists with the same members: plain. Conditions: none.
  A number put to its place among ascending ones: plain. Conditions: the numbers ascend.
  A number put to its place among ascending ones, by the reference. Conditions: the numbers ascend; at most 1048000 of them.
  A region that draws its order and ends in a store to a cell that it loads: reads are taken first, what is known of the world need not hold behind the last store. Conditions: none.
-/
import Derived.Test.YthmhlbkkhaplkaaBaseA
import Derived.Test.YthmhlbkkhaplkaaBaseB
import Derived.Test.YthmhlbkkhaplkaaBaseC
import Derived.Test.YthmhlbkkhaplkaaBaseE
import Derived.Deep.CutBlock
import Derived.Deep.DeepCutAuto
import Derived.Deep.QuietTactic
import Derived.BigQuiet
import Derived.Test.YthmhlbkkhaplkaaChecked
import Derived.StillTailTactics
import Derived.StillTail
import Derived.OrdersHeld
import Derived.Deep.RegionHeld3
set_option linter.unusedSimpArgs false
set_option linter.unusedVariables false
namespace Go.Proofs.Ythmhlbkkhaplkaa
set_option linter.unusedVariables false
set_option linter.unusedSimpArgs false

section
variable {g : DV}
theorem stateK_pre {j k : Nat} (h : k ≤ j) : ∃ K, (stateK g j).2 = (stateK g k).2 ++ K := by
  induction j with
  | zero => obtain rfl : k = 0 := by omega
            exact ⟨[], (List.append_nil _).symm⟩
  | succ j ih =>
    by_cases e : k = j + 1
    · subst e; exact ⟨[], (List.append_nil _).symm⟩
    · obtain ⟨K, hK⟩ := ih (by omega)
      rw [stateK_succ]
      unfold stepF
      split
      · exact ⟨K ++ [_], by dsimp only; rw [hK, List.append_assoc]⟩
      · exact ⟨K ++ [_], by dsimp only; rw [hK, List.append_assoc]⟩
/-- The winner's choice at a vertex of its own: a move that stays won. -/
theorem strat_at (ok : GameOk g) {v : Nat} (hv : v < g.length) (hw : gOwn g v = wonI g v) : ∃ n, (stratF g)[v]? = some n ∧ n ∈ gRaw g v ∧ wonI g n.toNat = wonI g v := by
  have hs := stateK_ok ok v (by omega)
  have e1 : ∀ u, u < g.length → wonI (stateK g v).1 u = wonI g u := fun u hu => wonI_eq hs.win hs.len (by rw [hs.len]; exact hu)
  have hw' : gOwn (stateK g v).1 v = wonI (stateK g v).1 v := by rw [hs.own, e1 v hv]; exact hw
  obtain ⟨n, h1, h2, h3⟩ := pick_is hs.ok (by rw [hs.len]; exact hv) hw'
  have h4 := keeps_own hs.ok h2 hw' h3
  have h5 : n ∈ gRaw g v := by unfold gRaw at h2 ⊢; rw [← hs.later v (Nat.le_refl _)]; exact h2
  obtain ⟨-, hn0, hn1⟩ := ok.raw h5
  refine ⟨n, ?_, h5, ?_⟩
  · obtain ⟨K, hK⟩ := stateK_pre (g := g) (k := v + 1) (j := g.length) (by omega)
    unfold stratF
    rw [hK, stateK_succ]
    unfold stepF
    rw [h1]
    dsimp only
    rw [List.append_assoc, List.getElem?_append_right (by rw [hs.out]; exact Nat.le_refl _), hs.out]
    simp
  · have := of_decide_eq_true h4
    rw [e1 _ (by omega), hs.own] at this
    rw [this, hw]
/-- Every move at a vertex of the other one stays won. -/
theorem opp_at (ok : GameOk g) {v u : Nat} (hv : v < g.length) (hw : gOwn g v ≠ wonI g v) (hu : u ∈ gNxt g v) : wonI g u = wonI g v := by
  have hl := ok.succ v u hu
  unfold wonI at hw ⊢
  cases e : wonB g v with
  | true =>
    obtain ⟨σ, c⟩ := cert_one ok.owned ok.succ
    rw [e, if_pos rfl] at hw
    rcases c.opp v ⟨hv, e⟩ hw u hu hl with h | h
    · rw [h.2]
    · exact absurd h (by simp)
  | false =>
    obtain ⟨σ, c⟩ := cert_zero ok.owned ok.succ
    rw [e, if_neg Bool.false_ne_true] at hw
    rcases c.opp v ⟨hv, e⟩ hw u hu hl with h | h
    · rw [h.2]
    · exact absurd h (by simp)
/-- The choice at a vertex. -/
noncomputable def choW (g : DV) (v : Int) : Int := ((stratF g)[v.toNat]?).getD (-1)
theorem choW_at (ok : GameOk g) {v : Nat} (hv : v < g.length) (hw : gOwn g v = wonI g v) : (stratF g)[v]? = some (choW g (v : Int)) ∧ choW g (v : Int) ∈ gRaw g v ∧ wonI g (choW g (v : Int)).toNat = wonI g v := by
  obtain ⟨n, h1, h2, h3⟩ := strat_at ok hv hw
  have e : choW g (v : Int) = n := by unfold choW; rw [show ((v : Int).toNat) = v by omega, h1]; rfl
  rw [e]
  exact ⟨h1, h2, h3⟩
end
end Go.Proofs.Ythmhlbkkhaplkaa

namespace Go.Proofs.Ythmhlbkkhaplkaa
set_option linter.unusedVariables false
set_option linter.unusedSimpArgs false

section
variable {g : DV}
theorem gRaw_put {v : Nat} (hv : v < g.length) (l : List Int) (u : Nat) : gRaw (putN g v l) u = if u = v then l else gRaw g u := by
  unfold gRaw
  by_cases e : u = v
  · subst e; rw [putN_self hv, if_pos rfl]; rfl
  · rw [putN_ne (fun h => e h.symm), if_neg e]
theorem state_pri (k u : Nat) : gPri (stateK g k).1 u = gPri g u := by
  induction k with
  | zero => rfl
  | succ k ih =>
    rw [stateK_succ]
    unfold stepF
    split
    · rw [putN_pri]; exact ih
    · exact ih
theorem state_pick (ok : GameOk g) {v : Nat} (hv : v < g.length) (hw : gOwn g v = wonI g v) : pickF (stateK g v).1 v = some (choW g (v : Int)) := by
  have hs := stateK_ok ok v (by omega)
  have e1 : wonI (stateK g v).1 v = wonI g v := wonI_eq hs.win hs.len (by rw [hs.len]; exact hv)
  have hw' : gOwn (stateK g v).1 v = wonI (stateK g v).1 v := by rw [hs.own, e1]; exact hw
  obtain ⟨n, h1, h2, h3⟩ := pick_is hs.ok (by rw [hs.len]; exact hv) hw'
  obtain ⟨K, hK⟩ := stateK_pre (g := g) (k := v + 1) (j := g.length) (by omega)
  have e : choW g (v : Int) = n := by
    unfold choW stratF
    rw [show ((v : Int).toNat) = v by omega, hK, stateK_succ]
    unfold stepF
    rw [h1]
    dsimp only
    rw [List.append_assoc, List.getElem?_append_right (by rw [hs.out]; exact Nat.le_refl _), hs.out]
    simp
  rw [e, h1]
theorem state_none (ok : GameOk g) {v : Nat} (hv : v < g.length) (hw : gOwn g v ≠ wonI g v) : pickF (stateK g v).1 v = none := by
  have hs := stateK_ok ok v (by omega)
  have e1 : wonI (stateK g v).1 v = wonI g v := wonI_eq hs.win hs.len (by rw [hs.len]; exact hv)
  unfold pickF
  rw [if_neg]
  rw [hs.own, e1]; exact hw
/-- The moves of the game in which all choices are made. -/
theorem state_raw (ok : GameOk g) : ∀ k, k ≤ g.length → ∀ v, gRaw (stateK g k).1 v = if v < k ∧ gOwn g v = wonI g v then [choW g (v : Int)] else gRaw g v
  | 0, _, v => by rw [if_neg (by omega)]; rfl
  | k + 1, hk, v => by
    have ih := state_raw ok k (by omega)
    have hs := stateK_ok ok k (by omega)
    rw [stateK_succ]
    unfold stepF
    by_cases hw : gOwn g k = wonI g k
    · rw [state_pick ok (by omega) hw]
      dsimp only
      rw [gRaw_put (by rw [hs.len]; omega), ih v]
      by_cases e : v = k
      · subst e; rw [if_pos rfl, if_pos ⟨by omega, hw⟩]
      · rw [if_neg e]
        by_cases c : v < k ∧ gOwn g v = wonI g v
        · rw [if_pos c, if_pos ⟨by omega, c.2⟩]
        · rw [if_neg c, if_neg (fun h => c ⟨by omega, h.2⟩)]
    · rw [state_none ok (by omega) hw]
      dsimp only
      rw [ih v]
      by_cases e : v = k
      · subst e; rw [if_neg (by omega), if_neg (fun h => hw h.2)]
      · by_cases c : v < k ∧ gOwn g v = wonI g v
        · rw [if_pos c, if_pos ⟨by omega, c.2⟩]
        · rw [if_neg c, if_neg (fun h => c ⟨by omega, h.2⟩)]
/-- The strategy has no choice where the vertex is not its winner's own. -/
theorem strat_none (ok : GameOk g) {v : Nat} (hv : v < g.length) (hw : gOwn g v ≠ wonI g v) : (stratF g)[v]? = some (-1) := by
  have hs := stateK_ok ok v (by omega)
  obtain ⟨K, hK⟩ := stateK_pre (g := g) (k := v + 1) (j := g.length) (by omega)
  unfold stratF
  rw [hK, stateK_succ]
  unfold stepF
  rw [state_none ok hv hw]
  dsimp only
  rw [List.append_assoc, List.getElem?_append_right (by rw [hs.out]; exact Nat.le_refl _), hs.out]
  simp

def atC (C : List Int) (v : Nat) : Int := (C[v]?).getD (-1)
theorem atC_get {C : List Int} {v : Nat} {x : Int} (h : C[v]? = some x) : atC C v = x := by unfold atC; rw [h]; rfl
/-- Choices for each vertex, which are the winner's where a vertex is its winner's own. -/
structure ChoOk (g : DV) (C : List Int) : Prop where
  len : C.length = g.length
  none : ∀ v, v < g.length → gRaw g v = [] → atC C v = -1
  some : ∀ v, v < g.length → gRaw g v ≠ [] → atC C v ∈ gRaw g v
  best : ∀ v, v < g.length → gOwn g v = wonI g v → atC C v = choW g (v : Int)
variable {C : List Int}
theorem ChoOk.step (h : ChoOk g C) (ok : GameOk g) {v : Nat} (hv : v < g.length) (hc : 0 ≤ atC C v) : atC C v ∈ gRaw g v ∧ (atC C v).toNat < g.length ∧ wonI g (atC C v).toNat = wonI g v := by
  have hm : atC C v ∈ gRaw g v := h.some v hv fun e => by have := h.none v hv e; omega
  obtain ⟨-, h0, h1⟩ := ok.raw hm
  refine ⟨hm, by omega, ?_⟩
  by_cases hw : gOwn g v = wonI g v
  · rw [h.best v hv hw]
    exact (choW_at ok hv hw).2.2
  · exact opp_at ok hv hw (by rw [gNxt_raw]; exact List.mem_map_of_mem hm)
theorem ChoOk.neg (h : ChoOk g C) (ok : GameOk g) {v : Nat} (hv : v < g.length) (hc : atC C v < 0) : 1 - gOwn g v = wonI g v := by
  have hr : gRaw g v = [] := Classical.byContradiction fun c => by
    have := h.some v hv c
    obtain ⟨-, h0, h1⟩ := ok.raw this
    omega
  have hne : gOwn g v ≠ wonI g v := fun c => by
    have := (choW_at ok hv c).2.1
    rw [hr] at this
    exact List.not_mem_nil this
  have ho := ok.owned v hv
  unfold wonI at hne ⊢
  split at hne <;> rename_i c
  · rw [if_pos c]; omega
  · rw [if_neg c]; omega
/-- Where a play is behind some moves. -/
def walkC (C : List Int) (v : Nat) : Nat → Nat
  | 0 => v
  | k + 1 => (atC C (walkC C v k)).toNat
theorem ChoOk.walk (h : ChoOk g C) (ok : GameOk g) {v : Nat} (hv : v < g.length) : ∀ k, (∀ i, i < k → 0 ≤ atC C (walkC C v i)) → walkC C v k < g.length ∧ wonI g (walkC C v k) = wonI g v
  | 0, _ => ⟨hv, rfl⟩
  | k + 1, hk => by
    obtain ⟨h1, h2⟩ := h.walk ok hv k fun i hi => hk i (by omega)
    obtain ⟨a, b, c⟩ := h.step ok h1 (hk k (by omega))
    exact ⟨b, c.trans h2⟩
theorem GoodP.congr_pri {g g' : DV} {o : Int} {p : Nat → Nat} (h : GoodP g o p) (e : ∀ v, gPri g' v = gPri g v) : GoodP g' o p := by
  obtain ⟨m, a, b, N, c⟩ := h
  refine ⟨m, a, fun M => ?_, N, fun i hi => ?_⟩
  · obtain ⟨i, hi, hm⟩ := b M
    exact ⟨i, hi, by rw [e]; exact hm⟩
  · rw [e]; exact c i hi
/-- A play that never ends is won by whom the first vertex is won by. -/
theorem ChoOk.good (h : ChoOk g C) (ok : GameOk g) {v : Nat} (hv : v < g.length) (hk : ∀ i, 0 ≤ atC C (walkC C v i)) : GoodP g (wonI g v) (walkC C v) := by
  have hw := fun i => h.walk ok hv i fun j _ => hk j
  have hs := stateK_ok ok g.length (Nat.le_refl _)
  have hso := hs.ok
  have hsl := hs.len
  have hsw := hs.win
  have hsn := hs.own
  clear hs
  have hraw := state_raw ok g.length (Nat.le_refl _)
  have hpri := state_pri (g := g) g.length
  generalize hG : (stateK g g.length).1 = G at hso hsl hsw hsn hraw hpri
  have hl : G.length = g.length := hsl
  have e1 : ∀ u, u < g.length → wonI G u = wonI g u := fun u hu => wonI_eq hsw hsl (by rw [hl]; exact hu)
  have hgo : ∀ i, walkC C v (i + 1) ∈ gNxt G (walkC C v i) := fun i => by
    obtain ⟨hi1, hi2⟩ := hw i
    rw [gNxt_raw, hraw]
    by_cases c : walkC C v i < g.length ∧ gOwn g (walkC C v i) = wonI g (walkC C v i)
    · rw [if_pos c, ← h.best _ hi1 c.2]
      exact List.mem_singleton.2 rfl
    · rw [if_neg c]
      exact List.mem_map_of_mem (h.step ok hi1 (hk i)).1
  have hown : ∀ (σ : Nat → Nat) i, gOwn g (walkC C v i) = wonI g (walkC C v i) → σ (walkC C v i) ∈ gNxt G (walkC C v i) → walkC C v (i + 1) = σ (walkC C v i) := fun σ i ho hm => by
    obtain ⟨hi1, hi2⟩ := hw i
    rw [gNxt_raw, hraw, if_pos ⟨hi1, ho⟩] at hm
    rw [List.mem_singleton.1 hm]
    show (atC C _).toNat = _
    rw [h.best _ hi1 ho]
  refine GoodP.congr_pri (g := G) ?_ fun u => (hpri u).symm
  cases c : wonB G v with
  | true =>
    have e : wonI g v = 1 := by rw [← e1 v hv]; unfold wonI; rw [c]; rfl
    obtain ⟨σ, k⟩ := cert_one hso.owned hso.succ
    rw [e]
    have hmem : ∀ i, walkC C v i < G.length ∧ wonB G (walkC C v i) = true := fun i => ⟨by rw [hl]; exact (hw i).1, by
      rw [← c]; exact wonI_inj (by rw [e1 _ (hw i).1, e1 v hv]; exact (hw i).2)⟩
    refine k.win _ ⟨hmem, hgo, fun i ho => hown σ i ?_ (k.own _ (hmem i) ho).1⟩
    rw [← hsn, ho, (hw i).2, e]
  | false =>
    have e : wonI g v = 0 := by rw [← e1 v hv]; unfold wonI; rw [c]; rfl
    obtain ⟨σ, k⟩ := cert_zero hso.owned hso.succ
    rw [e]
    have hmem : ∀ i, walkC C v i < G.length ∧ wonB G (walkC C v i) = false := fun i => ⟨by rw [hl]; exact (hw i).1, by
      rw [← c]; exact wonI_inj (by rw [e1 _ (hw i).1, e1 v hv]; exact (hw i).2)⟩
    refine k.win _ ⟨hmem, hgo, fun i ho => hown σ i ?_ (k.own _ (hmem i) ho).1⟩
    rw [← hsn, ho, (hw i).2, e]

/-- A play that comes back: the least priority from there on tells the winner. -/
theorem walk_back {v j n : Nat} (hj : j ≤ n) (hb : walkC C v (n + 1) = walkC C v j) : ∀ k, walkC C v (k + j + (n + 1 - j)) = walkC C v (k + j)
  | 0 => by rw [Nat.zero_add, show j + (n + 1 - j) = n + 1 by omega]; exact hb
  | k + 1 => by
    have := walk_back hj hb k
    rw [show k + 1 + j + (n + 1 - j) = (k + j + (n + 1 - j)) + 1 by omega, show k + 1 + j = (k + j) + 1 by omega]
    unfold walkC
    rw [this]
theorem walk_many {v j n : Nat} (hj : j ≤ n) (hb : walkC C v (n + 1) = walkC C v j) (k : Nat) : ∀ t, walkC C v (k + j + t * (n + 1 - j)) = walkC C v (k + j)
  | 0 => by rw [Nat.zero_mul, Nat.add_zero]
  | t + 1 => by
    rw [Nat.add_mul, Nat.one_mul, show k + j + (t * (n + 1 - j) + (n + 1 - j)) = (k + t * (n + 1 - j)) + j + (n + 1 - j) by omega, walk_back hj hb, show k + t * (n + 1 - j) + j = k + j + t * (n + 1 - j) by omega]
    exact walk_many hj hb k t
theorem walk_seg {v j n : Nat} (hj : j ≤ n) (hb : walkC C v (n + 1) = walkC C v j) (i : Nat) (hi : j ≤ i) : ∃ s, j ≤ s ∧ s ≤ n ∧ walkC C v i = walkC C v s := by
  refine ⟨j + (i - j) % (n + 1 - j), by omega, ?_, ?_⟩
  · have := Nat.mod_lt (i - j) (show 0 < n + 1 - j by omega)
    omega
  · have h1 := Nat.mod_add_div (i - j) (n + 1 - j)
    have h2 := walk_many hj hb ((i - j) % (n + 1 - j)) ((i - j) / (n + 1 - j))
    rw [Nat.mul_comm ((i - j) / _)] at h2
    rw [show (i - j) % (n + 1 - j) + j + (n + 1 - j) * ((i - j) / (n + 1 - j)) = i by omega] at h2
    rw [h2, Nat.add_comm]
theorem ChoOk.lasso (h : ChoOk g C) (ok : GameOk g) {v j n : Nat} (hv : v < g.length) (hj : j ≤ n) (hk : ∀ i, i ≤ n → 0 ≤ atC C (walkC C v i)) (hb : walkC C v (n + 1) = walkC C v j)
    {m : Int} (hm : ∀ s, j ≤ s → s ≤ n → m ≤ gPri g (walkC C v s)) {s0 : Nat} (h0 : j ≤ s0 ∧ s0 ≤ n ∧ gPri g (walkC C v s0) = m) : m % 2 = wonI g v := by
  have hall : ∀ i, 0 ≤ atC C (walkC C v i) := fun i => by
    by_cases c : j ≤ i
    · obtain ⟨s, h1, h2, h3⟩ := walk_seg hj hb i c
      rw [h3]; exact hk s h2
    · exact hk i (by omega)
  obtain ⟨q, e, a, N, b⟩ := h.good ok hv hall
  obtain ⟨i, hi, hq⟩ := a j
  obtain ⟨s, h1, h2, h3⟩ := walk_seg hj hb i hi
  have g1 := hm s h1 h2
  rw [← h3, hq] at g1
  obtain ⟨k, rfl⟩ : ∃ k, s0 = k + j := ⟨s0 - j, by omega⟩
  have g2 := b (k + j + N * (n + 1 - j)) (by
    have : N * 1 ≤ N * (n + 1 - j) := Nat.mul_le_mul_left _ (by omega)
    omega)
  rw [walk_many hj hb, h0.2.2] at g2
  have : m = q := by omega
  rw [this]; exact e
end

section
variable {g : DV}
/-- Other priorities. -/
def priM (f : Int → Int) (g : DV) : DV := g.map fun x => (x.1, f x.2.1, x.2.2)
/-- The players exchanged. -/
def dualM (g : DV) : DV := g.map fun x => (1 - x.1, x.2.1 + 1, x.2.2)
theorem priM_len (f : Int → Int) (g : DV) : (priM f g).length = g.length := List.length_map ..
theorem dualM_len (g : DV) : (dualM g).length = g.length := List.length_map ..
theorem priM_own (f : Int → Int) (g : DV) (v : Nat) : gOwn (priM f g) v = gOwn g v := by
  unfold gOwn priM; rw [List.getElem?_map]; cases g[v]? <;> rfl
theorem priM_nxt (f : Int → Int) (g : DV) (v : Nat) : gNxt (priM f g) v = gNxt g v := by
  unfold gNxt priM; rw [List.getElem?_map]; cases g[v]? <;> rfl
theorem priM_pri (f : Int → Int) (g : DV) {v : Nat} (hv : v < g.length) : gPri (priM f g) v = f (gPri g v) := by
  unfold gPri priM; rw [List.getElem?_map, List.getElem?_eq_getElem hv]; rfl
theorem dualM_own (g : DV) {v : Nat} (hv : v < g.length) : gOwn (dualM g) v = 1 - gOwn g v := by
  unfold gOwn dualM; rw [List.getElem?_map, List.getElem?_eq_getElem hv]; rfl
theorem dualM_nxt (g : DV) (v : Nat) : gNxt (dualM g) v = gNxt g v := by
  unfold gNxt dualM; rw [List.getElem?_map]; cases g[v]? <;> rfl
theorem dualM_pri (g : DV) {v : Nat} (hv : v < g.length) : gPri (dualM g) v = gPri g v + 1 := by
  unfold gPri dualM; rw [List.getElem?_map, List.getElem?_eq_getElem hv]; rfl
theorem Play.lt {o : Int} {σ : Nat → Nat} {W : Nat → Prop} {p : Nat → Nat} (h : Play g o σ W p) (hs : ∀ v, W v → v < g.length) (i : Nat) : p i < g.length := hs _ (h.mem i)
theorem cert_priM {f : Int → Int} (hp : ∀ v, v < g.length → f (gPri g v) % 2 = gPri g v % 2) (hm : ∀ u v, u < g.length → v < g.length → gPri g u ≤ gPri g v → f (gPri g u) ≤ f (gPri g v))
    {o : Int} {W : Nat → Prop} {σ : Nat → Nat} (h : Cert g (· < g.length) o W σ) : Cert (priM f g) (· < (priM f g).length) o W σ := by
  refine ⟨fun v hv => by rw [priM_len]; exact h.sub v hv, fun v hv ho => ?_, fun v hv ho u hu ha => ?_, fun p hp2 => ?_⟩
  · rw [priM_own] at ho; rw [priM_nxt]; exact h.own v hv ho
  · rw [priM_own] at ho; rw [priM_nxt] at hu; exact h.opp v hv ho u hu (by rw [priM_len] at ha; exact ha)
  · have hpl : Play g o σ W p := ⟨hp2.mem, fun i => by have := hp2.go i; rwa [priM_nxt] at this, fun i ho => hp2.own i (by rw [priM_own]; exact ho)⟩
    have hlt := hpl.lt h.sub
    obtain ⟨m, e, a, N, b⟩ := h.win p hpl
    obtain ⟨i0, -, hi0⟩ := a 0
    refine ⟨f m, ?_, fun M => ?_, N, fun i hi => ?_⟩
    · rw [← hi0, hp _ (hlt i0), hi0]; exact e
    · obtain ⟨i, hi, h2⟩ := a M
      exact ⟨i, hi, by rw [priM_pri _ _ (hlt i), h2]⟩
    · rw [priM_pri _ _ (hlt i), ← hi0]
      exact hm _ _ (hlt _) (hlt _) (by rw [hi0]; exact b i hi)
theorem cert_dualM {o o' : Int} (ho' : o + o' = 1) (ho : o = 0 ∨ o = 1) {W : Nat → Prop} {σ : Nat → Nat} (h : Cert g (· < g.length) o W σ) : Cert (dualM g) (· < (dualM g).length) o' W σ := by
  refine ⟨fun v hv => by rw [dualM_len]; exact h.sub v hv, fun v hv k => ?_, fun v hv k u hu ha => ?_, fun p hp2 => ?_⟩
  · rw [dualM_own _ (h.sub v hv)] at k; rw [dualM_nxt]; exact h.own v hv (by omega)
  · rw [dualM_own _ (h.sub v hv)] at k; rw [dualM_nxt] at hu; exact h.opp v hv (by omega) u hu (by rw [dualM_len] at ha; exact ha)
  · have hlt := fun i => h.sub _ (hp2.mem i)
    have hpl : Play g o σ W p := ⟨hp2.mem, fun i => by have := hp2.go i; rwa [dualM_nxt] at this, fun i k => hp2.own i (by rw [dualM_own _ (hlt i)]; omega)⟩
    obtain ⟨m, e, a, N, b⟩ := h.win p hpl
    refine ⟨m + 1, by omega, fun M => ?_, N, fun i hi => ?_⟩
    · obtain ⟨i, hi, h2⟩ := a M
      exact ⟨i, hi, by rw [dualM_pri _ (hlt i), h2]⟩
    · rw [dualM_pri _ (hlt i)]
      have := b i hi
      omega
/-- Smaller priorities change no winner. -/
theorem won_priM (ok : GameOk g) {f : Int → Int} (ok' : GameOk (priM f g)) (hp : ∀ v, v < g.length → f (gPri g v) % 2 = gPri g v % 2) (hm : ∀ u v, u < g.length → v < g.length → gPri g u ≤ gPri g v → f (gPri g u) ≤ f (gPri g v)) {v : Nat} (hv : v < g.length) :
    wonI (priM f g) v = wonI g v := by
  unfold wonI
  cases c : wonB g v with
  | true =>
    obtain ⟨σ, k⟩ := cert_one ok.owned ok.succ
    rw [cert_won1 ok'.owned ok'.succ (cert_priM hp hm k) (v := v) ⟨hv, c⟩]
  | false =>
    obtain ⟨σ, k⟩ := cert_zero ok.owned ok.succ
    rw [cert_won0 ok'.owned ok'.succ (cert_priM hp hm k) (v := v) ⟨hv, c⟩]
/-- Exchanging the players exchanges the winners. -/
theorem won_dualM (ok : GameOk g) (ok' : GameOk (dualM g)) {v : Nat} (hv : v < g.length) : wonI (dualM g) v = 1 - wonI g v := by
  unfold wonI
  cases c : wonB g v with
  | true =>
    obtain ⟨σ, k⟩ := cert_one ok.owned ok.succ
    rw [cert_won0 ok'.owned ok'.succ (cert_dualM (o' := 0) (by omega) (.inr rfl) k) (v := v) ⟨hv, c⟩]
    rfl
  | false =>
    obtain ⟨σ, k⟩ := cert_zero ok.owned ok.succ
    rw [cert_won1 ok'.owned ok'.succ (cert_dualM (o' := 1) (by omega) (.inl rfl) k) (v := v) ⟨hv, c⟩]
    rfl
theorem winners_priM (ok : GameOk g) {f : Int → Int} (ok' : GameOk (priM f g)) (hp : ∀ v, v < g.length → f (gPri g v) % 2 = gPri g v % 2) (hm : ∀ u v, u < g.length → v < g.length → gPri g u ≤ gPri g v → f (gPri g u) ≤ f (gPri g v)) :
    winnersF (priM f g) = winnersF g := by
  rw [winnersF_won, winnersF_won, priM_len]
  refine List.map_congr_left fun v hv => ?_
  exact won_priM ok ok' hp hm (List.mem_range.1 hv)

end
end Go.Proofs.Ythmhlbkkhaplkaa

namespace Go.Proofs.Ythmhlbkkhaplkaa
set_option linter.unusedVariables false
set_option linter.unusedSimpArgs false

def atL (S : List Int) (j : Nat) : Int := (S[j]?).getD 0
theorem atL_get {S : List Int} {j : Nat} {x : Int} (h : S[j]? = some x) : atL S j = x := by unfold atL; rw [h]; rfl
def cmpN (S : List Int) : Nat → Int
  | 0 => atL S 0 % 2
  | j + 1 => if atL S (j + 1) % 2 = atL S j % 2 then cmpN S j else cmpN S j + 1
section
variable {S : List Int}
theorem atL_lt (h : S.Pairwise (· < ·)) {i j : Nat} (hij : i < j) (hj : j < S.length) : atL S i < atL S j := by
  rw [atL_get (List.getElem?_eq_getElem (show i < S.length by omega)), atL_get (List.getElem?_eq_getElem hj)]
  exact List.pairwise_iff_getElem.1 h i j (by omega) hj hij
theorem cmpN_par (j : Nat) : cmpN S j % 2 = atL S j % 2 := by
  induction j with
  | zero => unfold cmpN; omega
  | succ j ih =>
    unfold cmpN
    split
    · omega
    · omega
theorem cmpN_le (i : Nat) : ∀ k, cmpN S i ≤ cmpN S (i + k)
  | 0 => Int.le_refl _
  | k + 1 => by
    have := cmpN_le i k
    rw [← Nat.add_assoc]
    show _ ≤ cmpN S ((i + k) + 1)
    rw [cmpN]
    split <;> omega
theorem cmpN_bound (h : S.Pairwise (· < ·)) (h0 : ∀ x, x ∈ S → 0 ≤ x) : ∀ j, j < S.length → 0 ≤ cmpN S j ∧ cmpN S j ≤ atL S j
  | 0, hj => by
    have := h0 _ (List.getElem_mem hj)
    rw [← atL_get (List.getElem?_eq_getElem hj)] at this
    unfold cmpN
    omega
  | j + 1, hj => by
    obtain ⟨a, b⟩ := cmpN_bound h h0 j (by omega)
    have : atL S j < atL S (j + 1) := atL_lt h (Nat.lt_succ_self j) hj
    rw [cmpN]
    split <;> omega
/-- What the map holds behind j numbers. -/
def CmpTo (S : List Int) (f : Int → Option Int) (j : Nat) : Prop := ∀ i, i < j → f (atL S i) = some (cmpN S i)
theorem CmpTo.step {f : Int → Option Int} {j : Nat} (h : CmpTo S f j) (hS : S.Pairwise (· < ·)) (hj : j < S.length) : CmpTo S (fun x => if x = atL S j then some (cmpN S j) else f x) (j + 1) := by
  intro i hi
  by_cases e : i = j
  · subst e; exact if_pos rfl
  · have := atL_lt hS (show i < j by omega) hj
    exact (if_neg (by omega)).trans (h i (by omega))
def toF (f : Int → Option Int) (x : Int) : Int := (f x).getD 0
theorem CmpTo.at {f : Int → Option Int} (h : CmpTo S f S.length) {x : Int} (hx : x ∈ S) : ∃ i, i < S.length ∧ atL S i = x ∧ f x = some (cmpN S i) := by
  obtain ⟨i, hi, e⟩ := List.getElem_of_mem hx
  have e2 : atL S i = x := by rw [atL_get (List.getElem?_eq_getElem hi), e]
  exact ⟨i, hi, e2, by rw [← e2]; exact h i hi⟩
variable {g : DV}
theorem cmp_ok (ok : GameOk g) {f : Int → Option Int} (hS : S.Pairwise (· < ·)) (hm : ∀ x, x ∈ S ↔ x ∈ g.map fun x => x.2.1) (h : CmpTo S f S.length) :
    GameOk (priM (toF f) g) ∧ winnersF (priM (toF f) g) = winnersF g := by
  have hg : ∀ v, v < g.length → gPri g v ∈ S := fun v hv => (hm _).2 (List.mem_map.2 ⟨g[v], List.getElem_mem hv, (gPri_at (g := g) (v := v) (o := g[v].1) (p := g[v].2.1) (l := g[v].2.2) (List.getElem?_eq_getElem hv)).symm⟩)
  have h0 : ∀ x, x ∈ S → 0 ≤ x ∧ x ≤ 9 := fun x hx => by
    obtain ⟨y, hy, rfl⟩ := List.mem_map.1 ((hm x).1 hx)
    have := (ok.2 y hy).2.1
    exact this
  have hb := cmpN_bound hS (fun x hx => (h0 x hx).1)
  have ok' : GameOk (priM (toF f) g) := by
    refine ⟨by rw [priM_len]; exact ok.1, fun y hy => ?_⟩
    obtain ⟨x, hx, rfl⟩ := List.mem_map.1 hy
    have e := ok.2 x hx
    have hxs : x.2.1 ∈ S := (hm _).2 (List.mem_map.2 ⟨x, hx, rfl⟩)
    obtain ⟨i, hi, e1, e2⟩ := h.at hxs
    have e3 := hb i hi
    have e4 := h0 _ hxs
    rw [priM_len]
    refine ⟨e.1, ?_, e.2.2⟩
    show 0 ≤ toF f x.2.1 ∧ toF f x.2.1 ≤ 9
    unfold toF
    rw [e2]
    show 0 ≤ cmpN S i ∧ cmpN S i ≤ 9
    omega
  refine ⟨ok', winners_priM ok ok' (fun v hv => ?_) fun u v hu hv huv => ?_⟩
  · obtain ⟨i, hi, e1, e2⟩ := h.at (hg v hv)
    unfold toF
    rw [e2]
    show cmpN S i % 2 = _
    rw [cmpN_par, e1]
  · obtain ⟨i, hi, e1, e2⟩ := h.at (hg u hu)
    obtain ⟨j, hj, e3, e4⟩ := h.at (hg v hv)
    unfold toF
    rw [e2, e4]
    show cmpN S i ≤ cmpN S j
    have hij : i ≤ j := Nat.le_of_not_lt fun c => by
      have := atL_lt hS c hi
      omega
    have := cmpN_le (S := S) i (j - i)
    rwa [show i + (j - i) = j by omega] at this
end
end Go.Proofs.Ythmhlbkkhaplkaa

namespace Go.Proofs.Ythmhlbkkhaplkaa
open Go.ChangeShapes Go.WideShapes Go.ChangeAt Go.RowKit
set_option linter.unusedVariables false
set_option linter.unusedSimpArgs false

/-- The first place of v in l. -/
def FstI (l : List Int) (v i : Int) : Prop := (i = -1 ∧ v ∉ l) ∨ ∃ k : Nat, i = k ∧ k < l.length ∧ l[k]? = some v
set_option maxRecDepth 100000 in
theorem indexX_calls (v : Int) (A : Option Addr) (n c : Nat) (l : List Int) (w : World) (lo hi : Nat) (h : SlI w lo hi A n l) (hn : n ≤ 1048576) :
    Calls Try.prog 42 #[.slice A n c, .int .i64 v] w fun e w' => ∃ i : Int, e = .returned (.int .i64 i) ∧ FstI l v i ∧ w = w' := by
  have hlen := hide h.len
  go_enter Try.func42, Try.ntmps42
  go_wp2
  go_loop [8] (fun i => ∃ k : Nat, k ≤ n ∧ i = .int .i64 k ∧ Hid (v ∉ l.take k)) (fun i => n - (intOf i).toNat)
  case atStart => exact ⟨0, Nat.zero_le _, rfl, by rw [List.take_zero]; exact List.not_mem_nil⟩
  case round =>
    obtain ⟨k, hk, rfl, ha⟩ := hrel
    by_cases hlt : k < n
    · obtain ⟨b, off, x, rfl, g1, g2, g3, hx, c0, -⟩ := SlI.get h hlt
      clear h
      have hx2 := hide hx
      by_cases hq : x = v
      · subst hq
        clear hx
        go_wp2
        go_ret
        exact ⟨_, rfl, .inr ⟨k, rfl, (List.getElem?_eq_some_iff.1 hx2.out).1, hx2.out⟩, rfl⟩
      · have hy : Hid (v ∉ l.take (k + 1)) := by
          show ¬ _
          rw [List.take_add_one, hx, List.mem_append]
          rintro (h1 | h1)
          · exact ha.out h1
          · exact hq (List.mem_singleton.1 h1).symm
        have hne : (v == x) = false := by rw [beq_eq_false_iff_ne]; exact fun e => hq e.symm
        clear hx hq
        go_wp2
        go_round
        case rel => exact ⟨k + 1, by omega, by go_num, hy⟩
        case measure => simp [intOf]; omega
    · have hkn : k = n := by omega
      subst hkn
      clear h
      go_wp2
      go_ret
      have hy := ha.out
      rw [List.take_of_length_le (by rw [hlen.out]; exact Nat.le_refl _)] at hy
      exact ⟨_, rfl, .inl ⟨rfl, hy⟩, rfl⟩
theorem containsX_calls (v : Int) (A : Option Addr) (n c : Nat) (l : List Int) (w : World) (lo hi : Nat) (h : SlI w lo hi A n l) (hn : n ≤ 1048576) :
    Calls Try.prog 38 #[.slice A n c, .int .i64 v] w fun e w' => e = .returned (.bool (decide (v ∈ l))) ∧ w = w' := by
  have q := hide (indexX_calls v A n c l w lo hi h hn)
  clear h
  go_enter Try.func38, Try.ntmps38
  go_wp2_with fail
  refine q.out.mono ?_
  rintro e w1 ⟨i, rfl, hi, rfl⟩
  rcases hi with ⟨rfl, h1⟩ | ⟨k, rfl, -, h1⟩
  · have hv : Hid (decide (v ∈ l) = false) := decide_eq_false h1
    clear q
    go_wp2_with fail
    go_ret
    exact ⟨ret_b hv.out, rfl⟩
  · have hv : Hid (decide (v ∈ l) = true) := decide_eq_true (List.mem_of_getElem? h1)
    have k0 : (0 : Int) ≤ (k : Int) := by omega
    clear q
    go_wp2_with fail
    go_ret
    exact ⟨ret_b hv.out, rfl⟩

end Go.Proofs.Ythmhlbkkhaplkaa

namespace Go.Proofs.Ythmhlbkkhaplkaa
open Go.ChangeShapes Go.WideShapes Go.ChangeAt Go.RowKit
set_option linter.unusedVariables false
set_option linter.unusedSimpArgs false

/-- The play so far. -/
def plyL (C : List Int) (v m : Nat) : List Int := (List.range m).map fun i => (walkC C v i : Int)
theorem plyL_len (C : List Int) (v m : Nat) : (plyL C v m).length = m := by simp [plyL]
theorem plyL_at {C : List Int} {v m i : Nat} (h : i < m) : (plyL C v m)[i]? = some (walkC C v i : Int) := by simp [plyL, h]
theorem plyL_succ (C : List Int) (v m : Nat) : plyL C v (m + 1) = plyL C v m ++ [(walkC C v m : Int)] := by unfold plyL; rw [List.range_succ, List.map_append]; rfl
theorem plyL_mem {C : List Int} {v m : Nat} {x : Int} : x ∈ plyL C v m ↔ ∃ i, i < m ∧ x = (walkC C v i : Int) := by
  unfold plyL
  rw [List.mem_map]
  constructor
  · rintro ⟨i, hi, rfl⟩; exact ⟨i, List.mem_range.1 hi, rfl⟩
  · rintro ⟨i, hi, rfl⟩; exact ⟨i, List.mem_range.2 hi, rfl⟩
/-- A play without a vertex that comes twice is no longer than the game. -/
theorem ply_short {C : List Int} {v m n : Nat} (hd : ∀ i j, i < j → j < m → walkC C v i ≠ walkC C v j) (hn : ∀ i, i < m → walkC C v i < n) : m ≤ n := by
  have h1 : ((List.range m).map (walkC C v)).Nodup := by
    unfold List.Nodup
    rw [List.pairwise_map]
    rw [List.pairwise_iff_getElem]
    intro i j hi hj hij
    simp at hi hj ⊢
    exact hd i j hij hj
  have h2 := nodup_le n _ h1 fun x hx => by
    obtain ⟨i, hi, rfl⟩ := List.mem_map.1 hx
    exact hn i (List.mem_range.1 hi)
  simpa using h2
/-- The least priority of some vertices of a play. -/
def LstP (g : DV) (C : List Int) (v j i : Nat) (m : Int) : Prop := (∀ s, j ≤ s → s < j + i → m ≤ gPri g (walkC C v s)) ∧ ((i = 0 ∧ m = 9) ∨ ∃ s, j ≤ s ∧ s < j + i ∧ gPri g (walkC C v s) = m)
theorem LstP.step {g : DV} {C : List Int} {v j i : Nat} {m p : Int} (h : LstP g C v j i m) (hp : gPri g (walkC C v (j + i)) = p) (h9 : p ≤ 9) : LstP g C v j (i + 1) (if p < m then p else m) := by
  refine ⟨fun s h1 h2 => ?_, .inr ?_⟩
  · by_cases e : s = j + i
    · rw [e, hp]; split <;> omega
    · have := h.1 s h1 (by omega)
      split <;> omega
  · by_cases c : p < m
    · exact ⟨j + i, by omega, by omega, by rw [hp, if_pos c]⟩
    · rw [if_neg c]
      rcases h.2 with ⟨e1, e2⟩ | ⟨s, h1, h2, h3⟩
      · exact ⟨j + i, by omega, by omega, by rw [hp]; omega⟩
      · exact ⟨s, h1, by omega, h3⟩

theorem results_tmp4 {fn : Func} {t u v x : Tmp} (h : fn.results = #[.tmp t, .tmp u, .tmp v, .tmp x]) (tmps : Array Value) (P : Program) (w : World) :
    (results fn tmps).run P w = .ok (.tuple #[tmps.getD t undef, tmps.getD u undef, tmps.getD v undef, tmps.getD x undef]) w := by
  simp [results, h]
theorem gameAt_valid {A : Option Addr} {n c : Nat} {g : DV} {w : World} (h : GameAt w A n g) (ok : GameOk g) : Calls Try.prog 23 #[.slice A n c] w (Says true w) := by
  obtain ⟨R, h1, rfl, h3⟩ := h
  have hn : n ≤ 1048576 := by have := ok.1; omega
  have q := validGame_calls A n c R w _ _ h1 hn
  rw [decide_eq_true ok] at q
  exact q

set_option maxRecDepth 100000 in
set_option maxHeartbeats 3200000 in
theorem PlayGame_calls (G Ac : Option Addr) (n d cc v : Nat) (g : DV) (C : List Int) (w : World) (lo hi : Nat) (hg : GameAt w G n g) (ok : GameOk g) (hs : SlI w lo hi Ac n C) (hC : ChoOk g C) (hv : v < n) :
    Calls Try.prog 14 #[.slice G n d, .slice Ac n cc, .int .i64 (v : Int)] w fun e w' => ∃ A' m c' a, e = .returned (.tuple #[.slice A' m c', .int .i64 a, .int .i64 (wonI g v), .int .i64 0]) ∧ 0 < m ∧ SlI w' w.heap.size w'.heap.size A' m (plyL C v m) ∧ Below w.heap.size w w' := by
  have hE := hide elem_int64
  have hgl := hg.len
  have hn1 : n ≤ 120 := by have := ok.1; omega
  have hv' : v < g.length := by omega
  obtain ⟨bg, og, rfl, hbg⟩ := hg.addr (by omega)
  obtain ⟨bc, oc, rfl, -, -, hbc, -⟩ := hs.at_ (by omega)
  have q1 := hide (gameAt_valid (c := d) hg ok)
  have q2 := hide (fun W => index_calls (v : Int) n (by omega) W)
  have hin : inB (v : Int) 0 ((n : Int) - 1) = true := inB_true.2 (by omega)
  replace hs := hide (hs.top.more (Nat.zero_le _) (Nat.le_refl _))
  replace hg := hide hg
  replace ok := hide ok
  replace hC := hide hC
  replace hgl := hide hgl
  go_enter Try.func14, Try.ntmps14
  go_wp2_with (first | (go_at_call 23; (with_reducible refine q1.out.mono ?_); rintro e w1 ⟨rfl, hb1⟩) | (go_at_call 41; (with_reducible refine (q2.out _).mono ?_); rintro e w' ⟨rfl, rfl⟩))
  replace hb1 := hide hb1
  clear q1 q2
  go_loopw [36] (fun i wr => ∃ k : Nat, k ≤ n ∧ i = .int .i64 (k : Nat) ∧ Hid (Below w.heap.size w wr)) (fun i _ => n - (intOf i).toNat)
  case atStart => exact ⟨0, Nat.zero_le _, rfl, hb1.out⟩
  case round =>
    clear hb1
    obtain ⟨k, hk, rfl, hb⟩ := hrel
    by_cases hlt : k < n
    · have k0 : (0 : Int) ≤ (k : Int) := by omega
      have k1 : (k : Int) < (n : Int) := by omega
      have hkg : k < g.length := by have := hgl.out; omega
      obtain ⟨o, p, l, Ah, nh, ch, hx, c0, c1, c2, hl, hnh, -⟩ := (hg.out.below hb.out (Nat.le_refl _)).cell ok.out hlt
      have hlen := hl.len
      have hraw := gRaw_at hx
      obtain ⟨x, hCx, cx, -⟩ := SlI.cell (Sl.below hs.out hb.out (.inl (Nat.le_refl _))) hlt
      have hax := atC_get hCx
      have hbox := heap_alloc_new wr (.cells #[.int .i64 o, .int .i64 p, .slice Ah nh ch] 49)
      have y2 : (wr.alloc (.cells #[.int .i64 o, .int .i64 p, .slice Ah nh ch] 49)).cell? ⟨wr.heap.size, 2, none⟩ = some (.slice Ah nh ch) := (cell_of_row _ _ 2 _ _ (0, 0) hbox).trans rfl
      have cx2 : (wr.alloc (.cells #[.int .i64 o, .int .i64 p, .slice Ah nh ch] 49)).cell? ⟨bc, oc + k, none⟩ = some (.int .i64 x) := (((Below.refl wr.heap.size wr).alloc (Nat.le_refl _) _).cell (p := ⟨bc, oc + k, none⟩) (by have := hb.out.size; show bc < wr.heap.size; omega)).trans cx
      have hb2 := hide (hb.out.alloc hb.out.size (.cells #[.int .i64 o, .int .i64 p, .slice Ah nh ch] 49))
      have hla := hl.below ((Below.refl wr.heap.size wr).alloc (Nat.le_refl _) (.cells #[.int .i64 o, .int .i64 p, .slice Ah nh ch] 49)) (.inr (Nat.le_refl _))
      have qc := hide (fun N => containsX_calls x Ah nh ch l ((wr.alloc (.cells #[.int .i64 o, .int .i64 p, .slice Ah nh ch] 49)).drewN N) _ _ (hla.drewN N) hnh)
      clear hx hl hbox hla hCx cx
      by_cases hnil : nh = 0
      · have hl0 : l = [] := List.eq_nil_of_length_eq_zero (by omega)
        have hm1 := hC.out.none k hkg (by rw [hraw, hl0])
        rw [hax] at hm1
        subst hm1
        have f2 : decide ((nh : Int) > 0) = false := decide_eq_false (by omega)
        have f3 : ((nh : Int) == 0) = true := by rw [beq_iff_eq]; omega
        have f5 : ¬ (0 : Int) < (nh : Int) := by omega
        have f4 : ((-1 : Int) != -1) = false := rfl
        have f7 : decide (0 < nh) = false := decide_eq_false (by omega)
        have f8 : (nh == 0) = true := by rw [beq_iff_eq]; exact hnil
        have f9 : decide (nh = 0) = true := decide_eq_true hnil
        clear hraw hax hlen hl0 qc
        replace hnil := hide hnil
        go_wp2_with fail
        go_quiet (fail)
        go_wp2_with fail
        go_roundw
        case rel => exact ⟨k + 1, by omega, by go_num, ⟨hb2.out.os, hb2.out.tape, hb2.out.output, hb2.out.size, hb2.out.block⟩⟩
        case measure => simp [intOf]; omega
      · have hin2 := hC.out.some k hkg (by rw [hraw]; intro e; rw [e] at hlen; simp at hlen; omega)
        rw [hax, hraw] at hin2
        have f0 : decide (x ∈ l) = true := decide_eq_true hin2
        rw [f0] at qc
        have f1 : decide ((0 : Int) < (nh : Int)) = true := decide_eq_true (by omega)
        have f2 : decide ((nh : Int) > 0) = true := decide_eq_true (by omega)
        have f3 : ((nh : Int) == 0) = false := by rw [beq_eq_false_iff_ne]; omega
        have f5 : (0 : Int) < (nh : Int) := by omega
        have f6 : ¬ (nh : Int) = 0 := by omega
        have f7 : decide (0 < nh) = true := decide_eq_true (by omega)
        have f8 : (nh == 0) = false := by rw [beq_eq_false_iff_ne]; exact hnil
        have f9 : decide (nh = 0) = false := decide_eq_false hnil
        clear hraw hax hlen hin2 f0
        go_wp2_with fail
        go_quiet ((go_at_call 38; with_reducible exact same_quiet (qc.out _)))
        go_wp2_with fail
        go_roundw
        case rel => exact ⟨k + 1, by omega, by go_num, ⟨hb2.out.os, hb2.out.tape, hb2.out.output, hb2.out.size, hb2.out.block⟩⟩
        case measure => simp [intOf]; omega
    · have hlt2 : ¬ (k : Int) < (n : Int) := by omega
      have hzw := hb.out.size
      go_wp2_with fail
      obtain ⟨wo, rfl⟩ : ∃ wo : World, wo = wr := ⟨_, rfl⟩
      go_loopg [12, 13, 14] n (fun N pl ag kk wr => ∃ (m : Nat) (Ao : Option Addr) (co : Nat) (a x : Int), pl = .slice Ao m co ∧ ag = .int .i64 a ∧ kk = .int .i64 x ∧ Hid (Own 1 iv wr wo.heap.size 2 Ao m co (plyL C v m)) ∧ Hid (Below w.heap.size w wr) ∧ wo.heap.size ≤ wr.heap.size ∧
        Hid (∀ i, i < m → 0 ≤ atC C (walkC C v i)) ∧ ((a = -1 ∧ x = (walkC C v m : Int) ∧ m ≤ n ∧ n - m ≤ N ∧ Hid (∀ i j, i < j → j ≤ m → walkC C v i ≠ walkC C v j)) ∨ ∃ j : Nat, a = j ∧ j < m ∧ m ≤ n ∧ Hid (walkC C v m = walkC C v j)))
      case atStart => exact ⟨0, none, 0, -1, v, rfl, rfl, rfl, Own.nil_ _ _ _, hb, Nat.le_refl _, fun i hi => absurd hi (Nat.not_lt_zero _), .inl ⟨rfl, rfl, Nat.zero_le _, by omega, fun i j h1 h2 => by omega⟩⟩
      case round =>
        clear hb
        obtain ⟨m, Ao, co, a, x, rfl, rfl, rfl, hO, hB, hzr, hpos, hcase⟩ := hrel
        rcases hcase with ⟨rfl, rfl, hmn, hN, hdis⟩ | ⟨j, rfl, hj, hmn, hback⟩
        · have hwm := hC.out.walk ok.out hv' m hpos.out
          have hkm : walkC C v m < n := by have := hgl.out; omega
          have hmn2 : m + 1 ≤ n := ply_short (C := C) (v := v) (fun i j h1 h2 => hdis.out i j h1 (by omega)) fun i hi => by
            have := (hC.out.walk ok.out hv' i fun q hq => hpos.out q (by omega)).1
            have := hgl.out
            omega
          have hps := hide (plyL_succ C v m)
          obtain ⟨y, hCy, cy, -⟩ := SlI.cell (Sl.below hs.out hB.out (.inl (Nat.le_refl _))) hkm
          have hay := hide (atC_get hCy)
          have k0 : (0 : Int) ≤ (walkC C v m : Int) := by omega
          have k1 : (walkC C v m : Int) < (n : Int) := by omega
          have hza : wo.heap.size ≤ (wr.alloc (.cells #[.int .i64 (walkC C v m : Int)] 2)).heap.size := by rw [World.size_alloc]; omega
          have cya : (wr.alloc (.cells #[.int .i64 (walkC C v m : Int)] 2)).cell? ⟨bc, oc + walkC C v m, none⟩ = some (.int .i64 y) := (((Below.refl wr.heap.size wr).alloc (Nat.le_refl _) _).cell (p := ⟨bc, oc + walkC C v m, none⟩) (by have := hB.out.size; show bc < wr.heap.size; omega)).trans cy
          have hBa := hide (hB.out.alloc hB.out.size (.cells #[.int .i64 (walkC C v m : Int)] 2))
          replace hwm := hide hwm
          clear hCy
          go_upto_region 19 with (first | (at_builtin; (with_reducible refine wpList_app rfl (.tmp 76) (.tmp 78) rfl hE.out flat_iv rfl (hO.out.alloc _) rfl (Sl.lit1' wr 2 (walkC C v m : Int) _ rfl 1 _ ?d0) ?d1 hza ?_); rotate_right; intro A6 c6 w6 hown6 hgr6 hb6 hat6))
          case d0 => rfl
          case d1 => omega
          rw [← hps.out] at hown6
          have hB6 := hide (hBa.out.trans (hb6.mono hzw))
          have c6y : w6.cell? ⟨bc, oc + walkC C v m, none⟩ = some (.int .i64 y) := (hb6.cell (p := ⟨bc, oc + walkC C v m, none⟩) (by show bc < _; omega)).trans cya
          have hz6 := hb6.size
          rw [World.size_alloc] at hz6
          replace hown6 := hide hown6
          clear hgr6 hb6 hat6 cya cy hBa hO hza
          by_cases hy : y < 0
          · have hwin := hide ((hC.out.neg ok.out hwm.out.1 (by rw [hay.out]; exact hy)).trans hwm.out.2)
            obtain ⟨o, p, l, Ah, nh, ch, hx, c0, -, -, -, -, hob, -⟩ := (hg.out.below hB6.out (Nat.le_refl _)).cell ok.out hkm
            have hwr : Hid (1 - o = wonI g v) := by
              show _ = _
              rw [← hwin.out, gOwn_at hx]
            clear hx
            go_wp2_with fail
            go_quiet (fail)
            go_wp2_with fail
            (try simp only [Exit.inBlock, Exit.then])
            refine bodyPost_ret (results_tmp4 rfl _ _ _) rfl ?_
            refine ⟨A6, m + 1, c6, -1, ?_, by omega, ?_, ?_⟩
            · exact congrArg (fun z => Ending.returned (.tuple #[.slice A6 (m + 1) c6, .int .i64 (-1), .int .i64 z, .int .i64 0])) hwr.out
            · exact ((hown6.out.sl flat_iv).more (by omega) (Nat.le_refl _)).drewN _
            · exact hB6.out.trans ((below_drewN w6 _).mono (by omega))
          · have q3 := hide (indexX_calls y A6 (m + 1) c6 (plyL C v (m + 1)) w6 _ _ (hown6.out.sl flat_iv) (by omega))
            have hwy : Hid ((walkC C v (m + 1) : Int) = y) := by
              show ((atC C (walkC C v m)).toNat : Int) = y
              rw [hay.out]; omega
            have hpos2 : Hid (∀ i, i < m + 1 → 0 ≤ atC C (walkC C v i)) := fun i hi => by
              by_cases e : i = m
              · rw [e, hay.out]; omega
              · exact hpos.out i (by omega)
            obtain ⟨N2, rfl⟩ : ∃ N2, gk = N2 + 1 := ⟨gk - 1, by omega⟩
            go_wp2_with fail
            refine q3.out.mono ?_
            rintro e w7 ⟨i, rfl, hi, rfl⟩
            replace hi := hide hi
            go_wp2_with fail
            go_roundg N2
            case rel =>
              refine ⟨m + 1, A6, c6, i, y, rfl, rfl, rfl, hown6.out, hB6.out, by omega, hpos2.out, ?_⟩
              rcases hi.out with ⟨rfl, h1⟩ | ⟨j, rfl, h1, h2⟩
              · refine .inl ⟨rfl, hwy.out.symm, hmn2, by omega, fun i j hij hj => ?_⟩
                by_cases e : j = m + 1
                · subst e
                  intro e2
                  exact h1 (plyL_mem.2 ⟨i, hij, by rw [← hwy.out, e2]⟩)
                · exact hdis.out i j hij (by omega)
              · rw [plyL_len] at h1
                rw [plyL_at h1] at h2
                refine .inr ⟨j, rfl, h1, hmn2, ?_⟩
                injection h2 with h2
                show walkC C v (m + 1) = walkC C v j
                have := hwy.out
                omega
            case measure => omega
        · have jn : ¬ ((j : Int) < 0) := by omega
          have hcut : ∀ W : World, (Instr.slice 26 (.slice Ao m co) (some (.int .i64 (j : Int))) none none).run Try.prog W = .ok (.slice (cutA Ao j co 1) (m - j) (co - j)) W := fun W => run_cut hE.out Ao m co j (by omega) W
          have hmc : m ≤ co := hO.out.cap
          have hsl := hide (((hO.out.sl flat_iv).cut (k := j) (by omega) hmc).more (Nat.le_refl _) (Nat.le_refl _))
          go_wp2_with fail
          obtain ⟨wq, rfl⟩ : ∃ wq : World, wq = wr := ⟨_, rfl⟩
          go_loopw [15, 102] (fun ls i wz => ∃ (q : Nat) (lm : Int), q ≤ m - j ∧ i = .int .i64 (q : Nat) ∧ ls = .int .i64 lm ∧ Hid (LstP g C v j q lm) ∧ wz = wq) (fun _ i _ => (m - j) - (intOf i).toNat)
          case atStart => exact ⟨0, 9, Nat.zero_le _, rfl, rfl, ⟨fun s h1 h2 => by omega, .inl ⟨rfl, rfl⟩⟩, rfl⟩
          case round =>
            obtain ⟨q, lm, hq, rfl, rfl, hL, rfl⟩ := hrel
            by_cases hlt3 : q < m - j
            · obtain ⟨bp, op, x, hcA, -, -, -, hx, cx, -⟩ := SlI.get hsl.out hlt3
              rw [hcA] at *
              have q0 : (0 : Int) ≤ (q : Int) := by omega
              have q1 : (q : Int) < ((m - j : Nat) : Int) := by omega
              rw [List.getElem?_drop, plyL_at (by omega)] at hx
              injection hx with hx
              subst hx
              have hkq : walkC C v (j + q) < n := by
                have := (hC.out.walk ok.out hv' (j + q) fun i hi => hpos.out i (by omega)).1
                have := hgl.out
                omega
              obtain ⟨o, p, l, Ah, nh, ch, hx, -, c1, -, -, -, -, hp9, -⟩ := (hg.out.below hB.out (Nat.le_refl _)).cell ok.out hkq
              have hL2 := hide (hL.out.step (gPri_at hx) hp9.2)
              have hmin : Hid (min lm p = if p < lm then p else lm) := by show _ = _; split <;> omega
              have k0 : (0 : Int) ≤ (walkC C v (j + q) : Int) := by omega
              have k1 : (walkC C v (j + q) : Int) < (n : Int) := by omega
              clear hx
              go_wp2_with fail
              go_roundw
              case rel => exact ⟨q + 1, _, by omega, by go_num, rfl, (by first | exact hL2.out | (rw [hmin.out]; exact hL2.out)), (by first | trivial | rfl)⟩
              case measure => simp [intOf]; omega
            · have q1 : ¬ (q : Int) < ((m - j : Nat) : Int) := by omega
              obtain rfl : q = m - j := by omega
              obtain ⟨m', rfl⟩ : ∃ m', m = m' + 1 := ⟨m - 1, by omega⟩
              have hfin : Hid (lm.tmod 2 = wonI g v) := by
                rcases hL.out.2 with ⟨e, -⟩ | ⟨s0, h1, h2, h3⟩
                · omega
                · have hs0 := (ok.out.pri (hC.out.walk ok.out hv' s0 fun i hi => hpos.out i (by omega)).1).1
                  show lm.tmod 2 = _
                  rw [Int.tmod_eq_emod_of_nonneg (by omega)]
                  exact hC.out.lasso ok.out hv' (j := j) (n := m') (by omega) (fun i hi => hpos.out i (by omega)) hback.out (fun s h1 h2 => hL.out.1 s h1 (by omega)) ⟨h1, by omega, h3⟩
              go_wp2_with fail
              (try simp only [Exit.inBlock, Exit.then])
              refine bodyPost_ret (results_tmp4 rfl _ _ _) rfl ?_
              refine ⟨Ao, m' + 1, ⟨co, j, ?_⟩, by omega, (hO.out.sl flat_iv).more (by omega) (Nat.le_refl _), hB.out⟩
              exact congrArg (fun z => Ending.returned (.tuple #[.slice Ao (m' + 1) co, .int .i64 (j : Int), .int .i64 z, .int .i64 0])) hfin.out

end Go.Proofs.Ythmhlbkkhaplkaa

namespace Go.Proofs.Ythmhlbkkhaplkaa
open Go.ChangeShapes Go.WideShapes Go.ChangeAt Go.RowKit
set_option linter.unusedVariables false
set_option linter.unusedSimpArgs false

theorem gameAt_says {A : Option Addr} {n c : Nat} {g : DV} {w : World} (h : GameAt w A n g) (hn : n ≤ 1048576) : Calls Try.prog 23 #[.slice A n c] w (Says (decide (GameOk g)) w) := by
  obtain ⟨R, h1, rfl, h3⟩ := h
  exact validGame_calls A n c R w _ _ h1 hn
theorem GameW.cellX {w : World} {b off n k : Nat} {g : DV} (h : GameW w b off n g) (hk : k < n) : ∃ o p l, g[k]? = some (o, p, l) ∧ w.cell? ⟨b, off + k * 3, none⟩ = some (.int .i64 o) ∧ w.cell? ⟨b, off + k * 3 + 1, none⟩ = some (.int .i64 p) := by
  obtain ⟨R, h1, rfl, _⟩ := h
  obtain ⟨b', off', o, p, Ah, nh, ch, l, e, g1, g2, g3, hx, c0, c1, c2, -⟩ := h1.atV hk
  cases e
  exact ⟨o, p, l, by rw [List.getElem?_map, hx]; rfl, c0, c1⟩

set_option maxRecDepth 100000 in
set_option maxHeartbeats 1600000 in
theorem DualGame_calls (G : Option Addr) (n d : Nat) (g : DV) (w : World) (hg : GameAt w G n g) (ok : GameOk g) :
    Calls Try.prog 17 #[.slice G n d] w fun e w' => ((∃ b c', e = .returned (.tuple #[.slice (some ⟨b, 0, none⟩) n c', .int .i64 0]) ∧ GameAt w' (some ⟨b, 0, none⟩) n (dualM g) ∧ GameOk (dualM g)) ∨ e = .returned (.tuple #[.slice none 0 0, .int .i64 5])) ∧ Below w.heap.size w w' := by
  have hgl := hg.len
  have hn1 : 0 < n ∧ n ≤ 120 := by have := ok.1; omega
  have q1 := hide (gameAt_valid (c := d) hg ok)
  have q2 := hide (fun W (hW : Below w.heap.size w W) => cloneGame_calls G n d g W (hg.below hW (Nat.le_refl _)) ok)
  replace ok := hide ok
  replace hgl := hide hgl
  obtain ⟨hn0, hn7⟩ := hn1
  clear hg
  go_enter Try.func17, Try.ntmps17
  go_wp2_with fail
  refine q1.out.mono ?_
  rintro e w1 ⟨rfl, hb1⟩
  replace hb1 := hide hb1
  clear q1
  go_wp2_with fail
  refine (q2.out _ hb1.out).mono ?_
  rintro e w2 ⟨b, c2, rfl, hG, hbb, hb2⟩
  have hz1 := hb1.out.size
  have hb3 := hide (hb1.out.trans (hb2.mono hz1))
  replace hG : Hid (GameW w2 b 0 n (mapD (fun x => (1 - x.1, x.2.1 + 1, x.2.2)) g 0)) := by show GameW _ _ _ _ _; rw [mapD_zero]; exact hG
  have hwb : w.heap.size ≤ b := by omega
  clear q2 hb1 hb2
  go_wp2_with fail
  go_loopw [13] (fun i wr => ∃ k : Nat, k ≤ n ∧ i = .int .i64 (k : Nat) ∧ Hid (GameW wr b 0 n (mapD (fun x => (1 - x.1, x.2.1 + 1, x.2.2)) g k)) ∧ Hid (Below w.heap.size w wr)) (fun i _ => n - (intOf i).toNat)
  case atStart => exact ⟨0, Nat.zero_le _, rfl, hG.out, hb3.out⟩
  case round =>
    clear hG hb3
    obtain ⟨k, hk, rfl, hG, hb⟩ := hrel
    by_cases hlt : k < n
    · have k0 : (0 : Int) ≤ (k : Int) := by omega
      have k1 : (k : Int) < (n : Int) := by omega
      obtain ⟨o, p, l, hx, c0, c1⟩ := hG.out.cellX hlt
      obtain ⟨f0, f1, hbl⟩ := hG.out.frozenJ hlt
      have hxg := hx
      rw [mapD_at] at hxg
      have hv := ok.out.at_ hxg
      have hG1 := hG.out.setO hlt hx (1 - o)
      have hx1 : ((mapD (fun x => (1 - x.1, x.2.1 + 1, x.2.2)) g k).set k (1 - o, p, l))[k]? = some (1 - o, p, l) := List.getElem?_set_self (List.getElem?_eq_some_iff.1 hx).1
      have hG2 := hG1.setP hlt hx1 (p + 1)
      rw [List.set_set, mapD_succ (fun x => (1 - x.1, x.2.1 + 1, x.2.2)) g hxg] at hG2
      have hb2 := hide ((hb.out.setCell (p := ⟨b, 0 + k * 3, none⟩) hwb (.int .i64 (1 - o))).setCell (p := ⟨b, 0 + k * 3 + 1, none⟩) hwb (.int .i64 (p + 1)))
      obtain ⟨-, f1', -⟩ := hG1.frozenJ hlt
      obtain ⟨o2, p2, l2, hx2, -, c1'⟩ := hG1.cellX hlt
      rw [hx1] at hx2
      cases hx2
      simp only [Nat.zero_add] at c0 c1 f0 f1 f1' c1' hG2 hb2
      have ho := hv.1
      have hp := hv.2.1
      replace hG2 := hide hG2
      clear hx hxg hv hG1 hx1
      go_wp2_with fail
      go_roundw
      case rel => exact ⟨k + 1, by omega, by go_num, hG2.out, hb2.out⟩
      case measure => simp [intOf]; omega
    · obtain rfl : k = n := by omega
      have hfin : mapD (fun x => (1 - x.1, x.2.1 + 1, x.2.2)) g k = dualM g := mapD_all _ g (by have := hgl.out; omega)
      have k1 : ¬ (k : Int) < (k : Int) := by omega
      have hG' := hG.out
      rw [hfin] at hG'
      have q3 := gameAt_says (c := c2) hG'.at (by omega)
      replace hG := hide hG'
      clear hG' hfin
      by_cases hok : GameOk (dualM g)
      · rw [decide_eq_true hok] at q3
        replace q3 := hide q3
        replace hok := hide hok
        go_wp2_with fail
        refine q3.out.mono ?_
        rintro e w4 ⟨rfl, hb4⟩
        have hb5 := hide (hb.out.trans (hb4.mono hb.out.size))
        have hG5 := hide (hG.out.at.below hb4 (Nat.le_refl _))
        clear hb4 q3
        go_wp2_with fail
        go_ret2
        exact ⟨.inl ⟨b, _, rfl, hG5.out, hok.out⟩, hb5.out⟩
      · rw [decide_eq_false hok] at q3
        replace q3 := hide q3
        replace hok := hide hok
        go_wp2_with fail
        refine q3.out.mono ?_
        rintro e w4 ⟨rfl, hb4⟩
        have hb5 := hide (hb.out.trans (hb4.mono hb.out.size))
        clear hb4 q3
        go_wp2_with fail
        go_ret2
        exact ⟨.inr rfl, hb5.out⟩

/-- The priorities of the first k vertices. -/
def priL (g : DV) (k : Nat) : List Int := (g.take k).map fun x => x.2.1
theorem priL_succ {g : DV} {k : Nat} {o p : Int} {l : List Int} (h : g[k]? = some (o, p, l)) : priL g (k + 1) = priL g k ++ [p] := by
  unfold priL; rw [List.take_add_one, h, List.map_append]; rfl

set_option maxRecDepth 100000 in
set_option maxHeartbeats 3200000 in
theorem CompressPriorities_calls (G : Option Addr) (n d : Nat) (g : DV) (w : World) (hg : GameAt w G n g) (ok : GameOk g) :
    Calls Try.prog 15 #[.slice G n d] w fun e w' => ∃ b c' f, e = .returned (.tuple #[.slice (some ⟨b, 0, none⟩) n c', .int .i64 0]) ∧ GameAt w' (some ⟨b, 0, none⟩) n (priM f g) ∧ GameOk (priM f g) ∧ winnersF (priM f g) = winnersF g ∧ Below w.heap.size w w' := by
  have hmm := @run_makeMap Try.prog
  have hE := hide elem_int64
  have hgl := hg.len
  have hn1 : 0 < n ∧ n ≤ 120 := by have := ok.1; omega
  obtain ⟨bg, og, rfl, hbg⟩ := hg.addr hn1.1
  have q1 := hide (gameAt_valid (c := d) hg ok)
  have q2 := hide (fun W (hW : Below w.heap.size w W) => cloneGame_calls _ n d g W (hg.below hW (Nat.le_refl _)) ok)
  replace hg := hide hg
  replace ok := hide ok
  replace hgl := hide hgl
  obtain ⟨hn0, hn7⟩ := hn1
  go_enter Try.func15, Try.ntmps15
  go_wp2_with fail
  refine q1.out.mono ?_
  rintro e w1 ⟨rfl, hb1⟩
  have hz1 := hb1.size
  replace hb1 := hide hb1
  clear q1
  go_wp2_with fail
  go_loopw [4, 17] (fun v i wr => ∃ (k : Nat) (Ao : Option Addr) (co : Nat), k ≤ n ∧ i = .int .i64 (k : Nat) ∧ v = .slice Ao k co ∧ Hid (Own 1 iv wr w1.heap.size 2 Ao k co (priL g k)) ∧ Hid (Below w.heap.size w wr) ∧ w1.heap.size ≤ wr.heap.size) (fun _ i _ => n - (intOf i).toNat)
  case atStart => exact ⟨0, none, 0, Nat.zero_le _, rfl, rfl, Own.nil_ _ _ _, hb1.out, Nat.le_refl _⟩
  case round =>
    clear hb1
    obtain ⟨k, Ao, co, hk, rfl, rfl, hO, hb, hzr⟩ := hrel
    by_cases hlt : k < n
    · have k0 : (0 : Int) ≤ (k : Int) := by omega
      have k1 : (k : Int) < (n : Int) := by omega
      obtain ⟨o, p, l, Ah, nh, ch, hx, c0, c1, c2, -⟩ := (hg.out.below hb.out (Nat.le_refl _)).cell ok.out hlt
      have hps := hide (priL_succ hx)
      have hbox := heap_alloc_new wr (.cells #[.int .i64 o, .int .i64 p, .slice Ah nh ch] 49)
      have y1 : (wr.alloc (.cells #[.int .i64 o, .int .i64 p, .slice Ah nh ch] 49)).cell? ⟨wr.heap.size, 1, none⟩ = some (.int .i64 p) := (cell_of_row _ _ 1 _ _ (0, 0) hbox).trans rfl
      have hza : w1.heap.size ≤ ((wr.alloc (.cells #[.int .i64 o, .int .i64 p, .slice Ah nh ch] 49)).alloc (.cells #[.int .i64 p] 2)).heap.size := by rw [World.size_alloc, World.size_alloc]; omega
      have hba := hide ((hb.out.alloc hb.out.size (.cells #[.int .i64 o, .int .i64 p, .slice Ah nh ch] 49)).alloc (by rw [World.size_alloc]; have := hb.out.size; omega) (.cells #[.int .i64 p] 2))
      clear hx hbox
      go_wp2_with (first | (at_builtin; (with_reducible refine wpList_app rfl (.tmp 21) (.tmp 24) rfl hE.out flat_iv rfl ((hO.out.alloc _).alloc _) rfl (Sl.lit1' (wr.alloc (.cells #[.int .i64 o, .int .i64 p, .slice Ah nh ch] 49)) 2 p _ rfl 1 _ ?d0) ?d1 hza ?_); rotate_right; intro A6 c6 w6 hown6 hgr6 hb6 hat6))
      case d0 => first | rfl | (rw [World.size_alloc])
      case d1 => omega
      rw [← hps.out] at hown6
      have hb7 := hide (hba.out.trans (hb6.mono (by omega)))
      have hz6 := hb6.size
      rw [World.size_alloc, World.size_alloc] at hz6
      replace hown6 := hide hown6
      clear hgr6 hb6 hat6
      go_roundw
      case rel => exact ⟨k + 1, A6, c6, by omega, by go_num, rfl, hown6.out, hb7.out, by omega⟩
      case measure => simp [intOf]; omega
    · obtain rfl : k = n := by omega
      have k1 : ¬ (k : Int) < (k : Int) := by omega
      have q3 := hide (sortedSet_calls Ao k co (priL g k) wr _ _ (hO.out.sl flat_iv) (by omega))
      have hall : Hid (priL g k = g.map fun x => x.2.1) := by show _ = _; unfold priL; rw [List.take_of_length_le (by have := hgl.out; omega)]
      have hzw := hb.out.size
      go_wp2_with fail
      refine q3.out.mono ?_
      rintro e w3 ⟨S0, m, cs, rfl, hS, hm, hb3⟩
      have hz3 := hb3.size
      have hb4 := hide (hb.out.trans (hb3.mono hzw))
      rw [hall.out] at hS
      have hSm : Hid (∀ x, x ∈ Lib.compact (sortI (g.map fun x => x.2.1)) ↔ x ∈ g.map fun x => x.2.1) := fun x => set_mem
      have hSa : Hid ((Lib.compact (sortI (g.map fun x => x.2.1))).Pairwise (· < ·)) := set_asc _
      generalize hSg : Lib.compact (sortI (g.map fun x => x.2.1)) = S at *
      have hSl := hS.len
      have hS9 : Hid (∀ x, x ∈ S → 0 ≤ x ∧ x ≤ 9) := fun x hx => by
        obtain ⟨y, hy, rfl⟩ := List.mem_map.1 ((hSm.out x).1 hx)
        exact (ok.out.2 y hy).2.1
      have hcb := hide (cmpN_bound hSa.out fun x hx => (hS9.out x hx).1)
      have hM0 := hide (MapJ.made w3)
      replace hS := hide ((hS.sl flat_iv))
      obtain ⟨bm, hbm⟩ : ∃ bm, bm = w3.heap.size := ⟨_, rfl⟩
      have hS0 : Hid (SlI (w3.alloc (.map #[] 0)) wr.heap.size bm S0 m S) := by rw [hbm]; exact hS.out.below ((Below.refl w3.heap.size w3).alloc (Nat.le_refl _) _) (.inl (Nat.le_refl _))
      have hb5 := hide (hb4.out.alloc hb4.out.size (.map #[] 0))
      rw [← hbm] at hM0
      have hwbm : w.heap.size ≤ bm := by rw [hbm]; exact hb4.out.size
      clear q3 hO hb hb3 hall hSg hS hb4
      go_wp2_with fail
      rw [← hbm]
      replace hbm := hide hbm
      obtain ⟨wA, rfl⟩ : ∃ wA : World, wA = wr := ⟨_, rfl⟩
      go_loopw [32] (fun iv wx => ∃ (i : Nat) (f : Int → Option Int), i ≤ m ∧ iv = .int .i64 (i : Nat) ∧ Hid (MapJ wx bm i f) ∧ Hid (CmpTo S f i) ∧ Hid (SlI wx wA.heap.size bm S0 m S) ∧ Hid (Below w.heap.size w wx)) (fun iv _ => m - (intOf iv).toNat)
      case atStart => exact ⟨0, _, Nat.zero_le _, rfl, hM0.out, fun i hi => absurd hi (Nat.not_lt_zero _), hS0.out, hb5.out⟩
      case round =>
        clear hM0 hS0 hb5
        obtain ⟨i, f, him, rfl, hM, hT, hS, hb⟩ := hrel
        by_cases hi : i < m
        · obtain ⟨bs, os, p, rfl, -, gs, gs2, hp, cp, -⟩ := SlI.get hS.out hi
          have hpa := atL_get hp
          have hp9 := hS9.out p (List.mem_of_getElem? hp)
          obtain ⟨hp0, hp1⟩ := hp9
          have hcbi := hcb.out i (by rw [hSl]; exact hi)
          have hT2 := hide (hT.out.step hSa.out (by rw [hSl]; exact hi))
          rw [hpa] at hT2 hcbi
          have i0 : (0 : Int) ≤ (i : Int) := by omega
          have i1 : (i : Int) < (m : Int) := by omega
          obtain ⟨w2, hu, hm2, hg2⟩ := hM.out.update (k := p) (c := cmpN S i) (by unfold maxLen; omega) (wf_of hp0 (by omega)) (wf_of hcbi.1 (by omega))
          have hS2 := hide (Sl.keep hS.out hg2.size fun q h1 h2 h3 => hg2.block q h3 (fun e => by injection e with e; omega))
          have hb2 := hide (hb.out.grown hg2 hb.out.size fun q hq => by injection hq with hq; omega)
          replace hm2 := hide hm2
          clear hp hg2
          cases i with
          | zero =>
            have e0 : cmpN S 0 = p % 2 := by show atL S 0 % 2 = _; rw [hpa]
            rw [e0] at hu hm2 hT2
            clear e0 hcbi hpa
            simp only [Nat.add_zero] at cp
            go_wp2_with fail
            go_roundw
            case rel => exact ⟨1, _, by omega, by go_num, hm2.out, hT2.out, hS2.out, hb2.out⟩
            case measure => simp [intOf]; omega
          | succ j =>
            obtain ⟨bs', os', pv, e9, -, -, -, hv, cv, -⟩ := SlI.get hS.out (show j < m by omega)
            cases e9
            have hva := atL_get hv
            have hv9 := hS9.out pv (List.mem_of_getElem? hv)
            obtain ⟨hv0, hv1⟩ := hv9
            have hl := hM.out.look (k := pv) (c := cmpN S j) (wf_of hv0 (by omega)) (by have := hT.out j (by omega); rwa [hva] at this)
            have hcj := hcb.out j (by rw [hSl]; omega)
            rw [hva] at hcj
            have ne0 : ((j + 1 : Nat) : Int) ≠ 0 := by omega
            clear hv
            by_cases hpar : p % 2 = pv % 2
            · have e0 : cmpN S (j + 1) = cmpN S j := by rw [cmpN, hpa, hva, if_pos hpar]
              rw [e0] at hu hm2 hT2
              have e1 : (p % 2 == pv % 2) = true := by rw [hpar]; simp
              clear e0 hcbi hpa hva hcj
              go_wp2_with fail
              go_roundw
              case rel => exact ⟨j + 1 + 1, _, by omega, by go_num, hm2.out, hT2.out, hS2.out, hb2.out⟩
              case measure => simp [intOf]; omega
            · have e0 : cmpN S (j + 1) = cmpN S j + 1 := by rw [cmpN, hpa, hva, if_neg hpar]
              rw [e0] at hu hm2 hT2
              have e1 : (p % 2 == pv % 2) = false := by rw [beq_eq_false_iff_ne]; exact hpar
              obtain ⟨hc0, hc1⟩ := hcj
              clear e0 hcbi hpa hva
              go_wp2_with fail
              go_roundw
              case rel => exact ⟨j + 1 + 1, _, by omega, by go_num, hm2.out, hT2.out, hS2.out, hb2.out⟩
              case measure => simp [intOf]; omega
        · obtain rfl : i = m := by omega
          have hi2 : ¬ (i : Int) < (i : Int) := by omega
          rw [← hSl] at hT
          have hfin := hide (cmp_ok ok.out hSa.out hSm.out hT.out)
          have hTa := hide (fun p (hp : p ∈ g.map fun x => x.2.1) => by
            obtain ⟨j, -, -, h3⟩ := hT.out.at ((hSm.out p).2 hp)
            exact (⟨cmpN S j, h3⟩ : ∃ c, f p = some c))
          have q5 := hide (q2.out _ hb.out)
          have hml := hM.out.lt
          clear q2 hT hS hcb hS9
          go_wp2_with fail
          refine q5.out.mono ?_
          rintro e w4 ⟨b, c4, rfl, hG, hbb, hb4⟩
          have hM4 := hide (hM.out.keep hb4.size (hb4.block _ hml))
          have hzr := hb.out.size
          have hb6 := hide (hb.out.trans (hb4.mono hzr))
          replace hG : Hid (GameW w4 b 0 k (mapD (fun x => (x.1, toF f x.2.1, x.2.2)) g 0)) := by show GameW _ _ _ _ _; rw [mapD_zero]; exact hG
          have hbm2 : bm < b := by omega
          have hwb : w.heap.size ≤ b := by omega
          clear q5 hM hb hb4
          go_wp2_with fail
          go_loopw [78] (fun iv wx => ∃ q : Nat, q ≤ k ∧ iv = .int .i64 (q : Nat) ∧ Hid (GameW wx b 0 k (mapD (fun x => (x.1, toF f x.2.1, x.2.2)) g q)) ∧ Hid (MapJ wx bm i f) ∧ Hid (Below w.heap.size w wx)) (fun iv _ => k - (intOf iv).toNat)
          case atStart => exact ⟨0, Nat.zero_le _, rfl, hG.out, hM4.out, hb6.out⟩
          case round =>
            clear hG hM4 hb6
            obtain ⟨q, hq, rfl, hG, hM, hb⟩ := hrel
            by_cases hlt3 : q < k
            · have q0 : (0 : Int) ≤ (q : Int) := by omega
              have q1 : (q : Int) < (k : Int) := by omega
              obtain ⟨o, p, l, hx, c0, c1⟩ := hG.out.cellX hlt3
              obtain ⟨f0, f1, hbl⟩ := hG.out.frozenJ hlt3
              have hxg := hx
              rw [mapD_at] at hxg
              have hv := (ok.out.at_ hxg).2.1
              obtain ⟨c, hfc⟩ := hTa.out p (List.mem_map.2 ⟨(o, p, l), List.mem_of_getElem? hxg, rfl⟩)
              have hl := hM.out.look (k := p) (c := c) (wf_of hv.1 (by omega)) hfc
              have htf : toF f p = c := by unfold toF; rw [hfc]; rfl
              have hG2 := hG.out.setP hlt3 hx c
              rw [show (o, c, l) = (fun x : Vx => (x.1, toF f x.2.1, x.2.2)) (o, p, l) from by dsimp only; rw [htf], mapD_succ (fun x => (x.1, toF f x.2.1, x.2.2)) g hxg] at hG2
              have hb2 := hide (hb.out.setCell (p := ⟨b, 0 + q * 3 + 1, none⟩) hwb (.int .i64 c))
              have hM2 := hide (hM.out.keep (w' := wr.setCell ⟨b, 0 + q * 3 + 1, none⟩ (.int .i64 c)) (by rw [World.size_setCell]; exact Nat.le_refl _) (Below.heap_setCell _ _ _ _ (by show bm ≠ b; omega)))
              simp only [Nat.zero_add] at c0 c1 f0 f1 hG2 hb2 hM2
              replace hG2 := hide hG2
              clear hx hxg hv hfc htf
              go_wp2_with fail
              go_roundw
              case rel => exact ⟨q + 1, by omega, by go_num, hG2.out, hM2.out, hb2.out⟩
              case measure => simp [intOf]; omega
            · obtain rfl : q = k := by omega
              have k2 : ¬ (q : Int) < (q : Int) := by omega
              have hall : mapD (fun x => (x.1, toF f x.2.1, x.2.2)) g q = priM (toF f) g := mapD_all _ g (by have := hgl.out; omega)
              rw [hall] at hG
              clear hall
              go_wp2_with fail
              go_ret2
              exact ⟨b, ⟨_, rfl⟩, toF f, hG.out.at, hfin.out.1, hfin.out.2, hb.out⟩

end Go.Proofs.Ythmhlbkkhaplkaa

namespace Go.Proofs.Ythmhlbkkhaplkaa
open Go.ChangeShapes Go.WideShapes Go.ChangeAt Go.RowKit
set_option linter.unusedVariables false
set_option linter.unusedSimpArgs false

/-- A byte. -/
def byv (n : Int) : List Value := [.int .u8 n]
abbrev SlU := Sl 1 byv

/-- The source lies in block b; of its bytes at most N are read. -/
def SrcW (w : World) (b N : Nat) : Prop :=
  ∃ (A : Option Addr) (n c : Nat) (code : List Int) (at_ : Nat) (seed : Int), w.heap[b]? = some (.cells #[.slice A n c, .int .i64 (at_ : Int), .int .u64 seed] 71 (0, 0)) ∧ at_ ≤ N ∧ n ≤ maxLen ∧
    SlU w 0 b A n code ∧ ∀ x, x ∈ code → 0 ≤ x ∧ x ≤ 255
/-- What drawing does: the source alone changes. -/
structure SrcTo (w w' : World) (b N : Nat) : Prop where
  src : SrcW w' b N
  only : Only b (b + 1) w w'
  size : w'.heap.size = w.heap.size

section
variable {w w' w2 : World} {b N M : Nat}
theorem SrcW.lt (h : SrcW w b N) : b < w.heap.size := by
  obtain ⟨A, n, c, code, a, s, hb, _⟩ := h
  exact (Array.getElem?_eq_some_iff.1 hb).1
theorem SrcW.more (h : SrcW w b N) (hN : N ≤ M) : SrcW w b M := by
  obtain ⟨A, n, c, code, a, s, hb, ha, r⟩ := h
  exact ⟨A, n, c, code, a, s, hb, Nat.le_trans ha hN, r⟩
theorem SrcW.keep (h : SrcW w b N) (hs : w.heap.size ≤ w'.heap.size) (hk : ∀ k, k ≤ b → w'.heap[k]? = w.heap[k]?) : SrcW w' b N := by
  obtain ⟨A, n, c, code, a, s, hb, ha, hn, hc, r⟩ := h
  exact ⟨A, n, c, code, a, s, (hk b (Nat.le_refl _)).trans hb, ha, hn, hc.keep hs fun k _ h2 _ => hk k (by omega), r⟩
theorem SrcW.below {B : Nat} (h : SrcW w b N) (hb : Below B w w') (hB : b < B) : SrcW w' b N := h.keep hb.size fun k hk => hb.block k (by omega)
theorem SrcTo.refl (h : SrcW w b N) : SrcTo w w b N := ⟨h, Only.refl _ _ _, rfl⟩
theorem Only.trans' {lo hi : Nat} {a w w' : World} (h : Only lo hi a w) (g : Only lo hi w w') : Only lo hi a w' :=
  ⟨g.os.trans h.os, g.tape.trans h.tape, g.output.trans h.output, Nat.le_trans h.size g.size, fun k hk ho => (g.block k (Nat.lt_of_lt_of_le hk h.size) ho).trans (h.block k hk ho)⟩
theorem SrcTo.trans (h : SrcTo w w' b N) (g : SrcTo w' w2 b M) : SrcTo w w2 b M := ⟨g.src, h.only.trans' g.only, g.size.trans h.size⟩
theorem SrcTo.more (h : SrcTo w w' b N) (hN : N ≤ M) : SrcTo w w' b M := ⟨h.src.more hN, h.only, h.size⟩
theorem SrcW.put {A : Option Addr} {n c : Nat} {code : List Int} {a : Nat} {s s' : Int} (hb : w.heap[b]? = some (.cells #[.slice A n c, .int .i64 (a : Int), .int .u64 s] 71 (0, 0))) (hn : n ≤ maxLen) (hc : SlU w 0 b A n code) (hr : ∀ x, x ∈ code → 0 ≤ x ∧ x ≤ 255) (k0 k : Nat) :
    SrcTo w ((((w.drewN k0).setCell ⟨b, 1, none⟩ (.int .i64 ((a : Int) + 1))).setCell ⟨b, 2, none⟩ (.int .u64 s')).drewN k) b (a + 1) := by
  have hlt : b < w.heap.size := (Array.getElem?_eq_some_iff.1 hb).1
  replace hb : (w.drewN k0).heap[b]? = _ := hb
  have hc2 : SlU (w.drewN k0) 0 b A n code := hc.drewN k0
  have hO : Only b (b + 1) w (w.drewN k0) := ⟨rfl, rfl, rfl, Nat.le_refl _, fun _ _ _ => rfl⟩
  have hz : (w.drewN k0).heap.size = w.heap.size := rfl
  generalize w.drewN k0 = W at *
  refine ⟨⟨A, n, c, code, a + 1, s', ?_, Nat.le_refl _, hn, ?_, hr⟩, ?_, ?_⟩
  · have h1 := heap_setCell_same W b 1 _ _ (.int .i64 ((a : Int) + 1)) hb
    have h2 := heap_setCell_same _ b 2 _ _ (.int .u64 s') h1
    exact h2
  · refine Sl.drewN (w := (W.setCell ⟨b, 1, none⟩ (.int .i64 ((a : Int) + 1))).setCell ⟨b, 2, none⟩ (.int .u64 s')) ?_ k
    exact hc2.keep (by simp [World.size_setCell]) fun q _ h2 h3 => (Below.heap_setCell _ _ _ _ (by show q ≠ b; omega)).trans (Below.heap_setCell _ _ _ _ (by show q ≠ b; omega))
  · have h1 := (hO.setCell (p := ⟨b, 1, none⟩) (Nat.le_refl _) (Nat.lt_succ_self _) (.int .i64 ((a : Int) + 1))).setCell (p := ⟨b, 2, none⟩) (Nat.le_refl _) (Nat.lt_succ_self _) (.int .u64 s')
    exact ⟨h1.os, h1.tape, h1.output, h1.size, h1.block⟩
  · show ((W.setCell _ _).setCell _ _).heap.size = _
    rw [World.size_setCell, World.size_setCell]; exact hz
end

theorem byte_bits (x : Int) : 0 ≤ bits .and .u64 x 255 ∧ bits .and .u64 x 255 ≤ 255 := by
  have h : ((BitVec.ofInt 64 x &&& BitVec.ofInt 64 255).toNat) ≤ 255 := by
    rw [BitVec.toNat_and]
    exact Nat.le_trans Nat.and_le_right (by decide)
  have e : bits .and .u64 x 255 = IntKind.u64.wrap ((BitVec.ofInt 64 x &&& BitVec.ofInt 64 255).toNat : Nat) := rfl
  rw [e, IntKind.wrap_u64]
  omega

theorem byte_wrap (x : Int) : 0 ≤ wrap64 (bits .and .u64 x 255) ∧ wrap64 (bits .and .u64 x 255) ≤ 255 := by
  have h := byte_bits x
  have e : wrap64 (bits .and .u64 x 255) = bits .and .u64 x 255 := by unfold wrap64; omega
  rw [e]; exact h

set_option maxRecDepth 100000 in
set_option maxHeartbeats 1600000 in
theorem next_calls (b N : Nat) (w : World) (h : SrcW w b N) (hN : N ≤ 1000000000) :
    Calls Try.prog 75 #[.pointer (some ⟨b, 0, none⟩)] w fun e w' => ∃ x : Int, e = .returned (.int .i64 x) ∧ 0 ≤ x ∧ x ≤ 255 ∧ SrcTo w w' b (N + 1) := by
  obtain ⟨A, n, c, code, a, s, hb, ha, hn, hc, hr⟩ := h
  have hput := hide fun s' k0 k => (SrcW.put (s' := s') hb hn hc hr k0 k).more (M := N + 1) (by omega)
  have c0 : w.cell? ⟨b, 0, none⟩ = some (.slice A n c) := (cell_of_row w b 0 _ _ (0, 0) hb).trans rfl
  have c1 : w.cell? ⟨b, 1, none⟩ = some (.int .i64 (a : Int)) := (cell_of_row w b 1 _ _ (0, 0) hb).trans rfl
  have c2 : w.cell? ⟨b, 2, none⟩ = some (.int .u64 s) := (cell_of_row w b 2 _ _ (0, 0) hb).trans rfl
  have f1 := frozen_of_row w b 1 _ _ hb
  have f2 := frozen_of_row w b 2 _ _ hb
  have hnm : n ≤ 9223372036854775807 := Nat.le_trans hn (by unfold maxLen; omega)
  replace hb := hide hb
  by_cases hlt : a < n
  · obtain ⟨bc, oc, rfl, -, -, -, hat⟩ := hc.at_ (by omega)
    have hl : a < code.length := by rw [hc.len]; exact hlt
    have hx := hat a _ (List.getElem?_eq_getElem hl) 0 _ rfl
    simp only [Nat.mul_one, Nat.add_zero] at hx
    obtain ⟨x0, x1⟩ := hr _ (List.getElem_mem hl)
    generalize code[a] = x at *
    obtain ⟨hx, -⟩ := hx
    replace hc := hide hc
    clear hat hr
    have i0 : (0 : Int) ≤ (a : Int) := by omega
    have i1 : (a : Int) < (n : Int) := by omega
    have i2 : (a : Int) + 1 ≤ (n : Int) := by omega
    have j1 : decide ((a : Int) < (n : Int)) = true := decide_eq_true i1
    have j2 : decide ((a : Int) + 1 ≤ (n : Int)) = true := decide_eq_true i2
    go_enter Try.func75, Try.ntmps75
    go_wp2_with fail
    go_quiet (fail)
    go_wp2_with fail
    go_quiet (fail)
    go_wp2_with fail
    go_quiet (fail)
    go_wp2_with fail
    go_ret
    exact ⟨x, rfl, x0, x1, hput.out _ _ _⟩
  · replace hc := hide hc
    have i1 : ¬ (a : Int) < (n : Int) := by omega
    have i2 : ¬ (a : Int) + 1 ≤ (n : Int) := by omega
    have j1 : decide ((a : Int) < (n : Int)) = false := decide_eq_false i1
    have j2 : decide ((a : Int) + 1 ≤ (n : Int)) = false := decide_eq_false i2
    go_enter Try.func75, Try.ntmps75
    go_wp2_with fail
    go_quiet (fail)
    go_wp2_with fail
    go_quiet (fail)
    go_wp2_with fail
    go_ret
    exact ⟨_, rfl, (byte_wrap _).1, (byte_wrap _).2, hput.out _ _ _⟩

/-- A number below n (0 where n is 1 or less). -/
def PickR (b N : Nat) (n : Int) (w : World) (e : Ending) (w' : World) : Prop := ∃ x : Int, e = .returned (.int .i64 x) ∧ 0 ≤ x ∧ (x < n ∨ x = 0) ∧ SrcTo w w' b (N + 2)
theorem pick_rem (x : Int) {n : Int} (hn : 1 < n) : 0 ≤ x % n ∧ x % n < n := ⟨Int.emod_nonneg _ (by omega), Int.emod_lt_of_pos _ (by omega)⟩
set_option maxRecDepth 100000 in
set_option maxHeartbeats 1600000 in
theorem pick_calls (b N : Nat) (n : Int) (w : World) (h : SrcW w b N) (hN : N ≤ 900000000) :
    Calls Try.prog 45 #[.pointer (some ⟨b, 0, none⟩), .int .i64 n] w (PickR b N n w) := by
  have q1 := hide (next_calls b N w h (by omega))
  have hself := hide ((SrcTo.refl h).more (show N ≤ N + 2 by omega))
  clear h
  by_cases h1 : n ≤ 1
  · go_enter Try.func45, Try.ntmps45
    go_wp2_with fail
    go_ret
    exact ⟨0, rfl, by omega, .inr rfl, hself.out⟩
  · have hne : n ≠ 0 := by omega
    by_cases h2 : 200 < n
    · go_enter Try.func45, Try.ntmps45
      go_wp2_with fail
      refine q1.out.mono ?_
      rintro e w1 ⟨x, rfl, x0, x1, hs1⟩
      have q2 := hide (next_calls b (N + 1) w1 hs1.src (by omega))
      replace hs1 := hide hs1
      go_wp2_with fail
      refine q2.out.mono ?_
      rintro e w2 ⟨y, rfl, y0, y1, hs2⟩
      have hs3 := hide (hs1.out.trans hs2)
      clear hs1 hs2 q1 q2
      have hr := pick_rem (x * 256 + y) (show 1 < n by omega)
      go_wp2_with fail
      go_ret
      exact ⟨_, rfl, hr.1, .inl hr.2, hs3.out⟩
    · go_enter Try.func45, Try.ntmps45
      go_wp2_with fail
      refine q1.out.mono ?_
      rintro e w1 ⟨x, rfl, x0, x1, hs1⟩
      have hs3 := hide (hs1.more (show N + 1 ≤ N + 2 by omega))
      clear hs1 q1
      have hr := pick_rem x (show 1 < n by omega)
      go_wp2_with fail
      go_ret
      exact ⟨_, rfl, hr.1, .inl hr.2, hs3.out⟩
theorem one_calls (b N : Nat) (n : Int) (w : World) (h : SrcW w b N) (hN : N ≤ 900000000) :
    Calls Try.prog 21 #[.pointer (some ⟨b, 0, none⟩), .int .i64 n] w fun e w' => ∃ v : Bool, e = .returned (.bool v) ∧ SrcTo w w' b (N + 2) := by
  have q1 := hide (pick_calls b N n w h hN)
  clear h
  go_enter Try.func21, Try.ntmps21
  go_wp2_with fail
  refine q1.out.mono ?_
  rintro e w1 ⟨x, rfl, x0, x1, hs1⟩
  replace hs1 := hide hs1
  clear q1
  go_wp2_with fail
  go_ret
  exact ⟨_, rfl, hs1.out⟩

end Go.Proofs.Ythmhlbkkhaplkaa

namespace Go.Proofs.Ythmhlbkkhaplkaa
set_option linter.unusedVariables false
set_option linter.unusedSimpArgs false

/-- Two strictly ascending lists of the same numbers are one. -/
theorem asc_one : ∀ {A B : List Int}, A.Pairwise (· < ·) → B.Pairwise (· < ·) → (∀ x, x ∈ A ↔ x ∈ B) → A = B
  | [], [], _, _, _ => rfl
  | [], b :: B, _, _, h => absurd ((h b).2 (List.mem_cons_self ..)) (List.not_mem_nil)
  | a :: A, [], _, _, h => absurd ((h a).1 (List.mem_cons_self ..)) (List.not_mem_nil)
  | a :: A, b :: B, hA, hB, h => by
    obtain ⟨ha, hA'⟩ := List.pairwise_cons.1 hA
    obtain ⟨hb, hB'⟩ := List.pairwise_cons.1 hB
    have e : a = b := by
      rcases List.mem_cons.1 ((h a).1 (List.mem_cons_self ..)) with e | h1
      · exact e
      · rcases List.mem_cons.1 ((h b).2 (List.mem_cons_self ..)) with e | h2
        · exact e.symm
        · have := hb a h1
          have := ha b h2
          omega
    subst e
    congr 1
    refine asc_one hA' hB' fun x => ?_
    constructor
    · intro hx
      rcases List.mem_cons.1 ((h x).1 (List.mem_cons_of_mem _ hx)) with rfl | g
      · have := ha _ hx; omega
      · exact g
    · intro hx
      rcases List.mem_cons.1 ((h x).2 (List.mem_cons_of_mem _ hx)) with rfl | g
      · have := hb _ hx; omega
      · exact g

end Go.Proofs.Ythmhlbkkhaplkaa

namespace Go.Proofs.Ythmhlbkkhaplkaa
set_option linter.unusedVariables false
set_option linter.unusedSimpArgs false

def putI (l : List Int) (n : Int) : List Int := (l.filter fun x => decide (x < n)) ++ n :: l.filter fun x => decide (n < x)
theorem putI_mem {l : List Int} {n x : Int} : x ∈ putI l n ↔ x ∈ l ∨ x = n := by
  unfold putI
  rw [List.mem_append, List.mem_cons, List.mem_filter, List.mem_filter, decide_eq_true_eq, decide_eq_true_eq]
  constructor
  · rintro (h | h | h)
    · exact .inl h.1
    · exact .inr h
    · exact .inl h.1
  · rintro (h | h)
    · by_cases h1 : x < n
      · exact .inl ⟨h, h1⟩
      · by_cases h2 : n < x
        · exact .inr (.inr ⟨h, h2⟩)
        · exact .inr (.inl (by omega))
    · exact .inr (.inl h)
theorem putI_asc {l : List Int} {n : Int} (h : l.Pairwise (· < ·)) : (putI l n).Pairwise (· < ·) := by
  refine List.pairwise_append.2 ⟨h.filter _, List.pairwise_cons.2 ⟨fun x hx => of_decide_eq_true (List.mem_filter.1 hx).2, h.filter _⟩, ?_⟩
  intro a ha b hb
  have h1 := of_decide_eq_true (List.mem_filter.1 ha).2
  rcases List.mem_cons.1 hb with rfl | hb
  · exact h1
  · have := of_decide_eq_true (List.mem_filter.1 hb).2
    omega
theorem putI_of {l k : List Int} {n : Int} (h : l.Pairwise (· < ·)) (hk : k.Pairwise (· < ·)) (hm : ∀ x, x ∈ k ↔ x ∈ l ∨ x = n) : putI l n = k :=
  asc_one (putI_asc h) hk fun x => by rw [putI_mem, hm]
/-- Whether the place is found among the first i; what lies in the new list then. -/
def doneI (l : List Int) (n : Int) (i : Nat) : Bool := (l.take i).any fun x => decide (n ≤ x)
def outI (l : List Int) (n : Int) (i : Nat) : List Int := if doneI l n i then putI (l.take i) n else l.take i
section
variable {l : List Int} {n x : Int} {i : Nat}
theorem doneI_succ (hx : l[i]? = some x) : doneI l n (i + 1) = (doneI l n i || decide (n ≤ x)) := by
  unfold doneI
  rw [List.take_add_one, hx, List.any_append]
  simp
theorem asc_snoc (h : l.Pairwise (· < ·)) (hx : l[i]? = some x) : ∀ y, y ∈ l.take i → y < x := by
  intro y hy
  obtain ⟨hi, e⟩ := List.getElem?_eq_some_iff.1 hx
  obtain ⟨j, hj, rfl⟩ := List.getElem_of_mem hy
  rw [List.length_take] at hj
  rw [List.getElem_take]
  have := List.pairwise_iff_getElem.1 h j i (by omega) hi (by omega)
  omega
theorem asc_take (h : l.Pairwise (· < ·)) (k : Nat) : (l.take k).Pairwise (· < ·) := h.sublist (List.take_sublist _ _)
theorem asc_app {k : List Int} (h : k.Pairwise (· < ·)) (hy : ∀ y, y ∈ k → y < x) : (k ++ [x]).Pairwise (· < ·) :=
  List.pairwise_append.2 ⟨h, by simp, fun a ha b hb => by rw [List.mem_singleton.1 hb]; exact hy a ha⟩
/-- One more number: what the loop appends. -/
theorem outI_succ (h : l.Pairwise (· < ·)) (hx : l[i]? = some x) :
    outI l n (i + 1) = (if doneI l n i = false ∧ n ≤ x ∧ n < x then outI l n i ++ [n] else outI l n i) ++ [x] := by
  have ht : l.take (i + 1) = l.take i ++ [x] := by rw [List.take_add_one, hx]; rfl
  have hlt := asc_snoc h hx
  have hta := asc_take h i
  unfold outI
  rw [doneI_succ hx]
  cases hd : doneI l n i with
  | true =>
    rw [Bool.true_or, if_pos rfl, if_neg (by simp), if_pos rfl]
    obtain ⟨y, hy, hyn⟩ := List.any_eq_true.1 hd
    have hyn := of_decide_eq_true hyn
    have hyx := hlt y hy
    refine putI_of (asc_take h (i + 1)) (asc_app (putI_asc hta) fun z hz => ?_) fun z => ?_
    · rcases putI_mem.1 hz with hz | rfl
      · exact hlt z hz
      · omega
    · rw [ht]
      simp only [List.mem_append, List.mem_singleton, putI_mem]
      constructor
      · rintro ((a | a) | a)
        · exact .inl (.inl a)
        · exact .inr a
        · exact .inl (.inr a)
      · rintro ((a | a) | a)
        · exact .inl (.inl a)
        · exact .inr a
        · exact .inl (.inr a)
  | false =>
    rw [Bool.false_or, if_neg Bool.false_ne_true]
    have hall : ∀ y, y ∈ l.take i → y < n := fun y hy => by
      have := List.any_eq_false.1 hd y hy
      rw [decide_eq_true_eq] at this
      omega
    by_cases hn : n ≤ x
    · rw [decide_eq_true hn, if_pos rfl]
      by_cases hnx : n < x
      · rw [if_pos ⟨rfl, hn, hnx⟩]
        refine putI_of (asc_take h (i + 1)) (asc_app (asc_app hta hall) fun z hz => ?_) fun z => ?_
        · rcases List.mem_append.1 hz with hz | hz
          · exact hlt z hz
          · rw [List.mem_singleton.1 hz]; exact hnx
        · rw [ht]
          simp only [List.mem_append, List.mem_singleton]
          constructor
          · rintro ((a | a) | a)
            · exact .inl (.inl a)
            · exact .inr a
            · exact .inl (.inr a)
          · rintro ((a | a) | a)
            · exact .inl (.inl a)
            · exact .inr a
            · exact .inl (.inr a)
      · rw [if_neg (by omega)]
        obtain rfl : n = x := by omega
        refine putI_of (asc_take h (i + 1)) (asc_app hta hlt) fun z => ?_
        rw [ht]
        simp only [List.mem_append, List.mem_singleton, or_assoc, or_self]
    · rw [decide_eq_false hn, if_neg Bool.false_ne_true, if_neg (by omega), ht]
theorem outI_end (h : l.Pairwise (· < ·)) : (if doneI l n l.length then outI l n l.length else outI l n l.length ++ [n]) = putI l n := by
  unfold outI
  rw [List.take_length]
  cases hd : doneI l n l.length with
  | true => rfl
  | false =>
    rw [if_neg Bool.false_ne_true, if_neg Bool.false_ne_true]
    symm
    refine putI_of h (asc_app h fun y hy => ?_) fun z => by simp
    unfold doneI at hd
    rw [List.take_length] at hd
    have := List.any_eq_false.1 hd y hy
    rw [decide_eq_true_eq] at this
    omega
end
end Go.Proofs.Ythmhlbkkhaplkaa

namespace Go.Proofs.Ythmhlbkkhaplkaa
open Go.ChangeShapes Go.WideShapes Go.ChangeAt Go.RowKit
set_option linter.unusedVariables false
set_option linter.unusedSimpArgs false

set_option maxRecDepth 100000 in
set_option maxHeartbeats 1600000 in
theorem l00Put_calls (A : Option Addr) (n c : Nat) (l : List Int) (x : Int) (w : World) (lo hi : Nat) (h : SlI w lo hi A n l) (hasc : l.Pairwise (· < ·)) (hn : n ≤ 1048000) :
    Calls Try.prog 46 #[.slice A n c, .int .i64 x] w fun e w' => ∃ A' n' c', e = .returned (.slice A' n' c') ∧ Own 1 iv w' w.heap.size 2 A' n' c' (putI l x) ∧ n' ≤ n + 1 ∧ Below w.heap.size w w' := by
  have hE := hide elem_int64
  have hlen := h.len
  replace h := hide h.top
  replace hasc := hide hasc
  go_enter Try.func46, Try.ntmps46
  go_wp2_with fail
  go_loopw [5, 6, 7] (fun v dn i wr => ∃ (k m : Nat) (Ao : Option Addr) (co : Nat), k ≤ n ∧ m ≤ k + 1 ∧ i = .int .i64 (k : Nat) ∧ v = .slice Ao m co ∧ dn = .bool (doneI l x k) ∧ Hid (Own 1 iv wr w.heap.size 2 Ao m co (outI l x k)) ∧ Below w.heap.size w wr) (fun _ _ i _ => n - (intOf i).toNat)
  case atStart => exact ⟨0, 0, _, 0, Nat.zero_le _, Nat.zero_le _, rfl, rfl, rfl, Own.made _ _ (Nat.le_refl _), (Below.refl _ _).alloc (Nat.le_refl _) _⟩
  case round =>
    obtain ⟨k, m, Ao, co, hk, hm, rfl, rfl, rfl, hown, hb⟩ := hrel
    by_cases hlt : k < n
    · have hz := hb.size
      have hza : ∀ o, w.heap.size ≤ (wr.alloc o).heap.size := fun o => by rw [World.size_alloc]; omega
      obtain ⟨b, off, y, rfl, g1, g2, g3, hy, c0, -⟩ := SlI.get h.out hlt
      replace c0 := (hb.cell (p := ⟨b, off + k, none⟩) g3).trans c0
      have hd := doneI_succ (n := x) hy
      have ho := outI_succ (n := x) hasc.out hy
      have k0 : (0 : Int) ≤ (k : Int) := by omega
      have k1 : (k : Int) < (n : Int) := by omega
      replace hy := hide hy
      replace hb := hide hb
      by_cases one : doneI l x k = false ∧ x < y
      · obtain ⟨d0, hxy⟩ := one
        have hm2 : m ≤ k := by
          have h1 := hown.out.len
          have h2 : outI l x k = l.take k := by unfold outI; rw [d0]; rfl
          rw [h2, List.length_take] at h1
          omega
        have e1 : Hid (outI l x (k + 1) = outI l x k ++ [x] ++ [y]) := by show _ = _; rw [ho, if_pos ⟨d0, by omega, hxy⟩]
        have e2 : Hid (doneI l x (k + 1) = true) := by show _ = _; rw [hd, d0, decide_eq_true (show x ≤ y by omega)]; rfl
        have hge : decide (y ≥ x) = true := decide_eq_true (by omega)
        have hge2 : y ≥ x := by omega
        have hgt : y > x := hxy
        rw [d0]
        clear hd ho d0
        have c0a : ∀ o, (wr.alloc o).cell? ⟨b, off + k, none⟩ = some (.int .i64 y) := fun o => (((Below.refl wr.heap.size wr).alloc (Nat.le_refl _) o).cell (p := ⟨b, off + k, none⟩) (by show b < wr.heap.size; omega)).trans c0
        have e4 := hide (show ∀ o, Below w.heap.size w (wr.alloc o) from fun o => hb.out.alloc hz o)
        go_wp2_with (first
          | (at_builtin; (with_reducible refine wpList_app rfl (.tmp 31) (.tmp 33) rfl hE.out flat_iv rfl (hown.out.alloc _) rfl (Sl.lit1' wr 2 x _ rfl 1 _ ?c0) ?c1 (hza _) ?_); rotate_right; intro A5 c5 w5 hown5 hgr5 hb5 _; have c5' := (hb5.cell (p := ⟨b, off + k, none⟩) g3).trans (c0a _); have hz5 := hb5.size; have hza5 : ∀ o, w.heap.size ≤ (w5.alloc o).heap.size := fun o => (by rw [World.size_alloc]; rw [World.size_alloc] at hz5; omega); have hz5' := Nat.le_trans (hza _) hz5; replace hown5 := hide hown5; replace hb5 := hide hb5; clear hgr5)
          | (at_builtin; (with_reducible refine wpList_app rfl (.tmp 35) (.tmp 40) rfl hE.out flat_iv rfl (hown5.out.alloc _) rfl (Sl.lit1' w5 2 y _ rfl 1 _ ?d0) ?d1 (hza5 _) ?_); rotate_right; intro A6 c6 w6 hown6 hgr6 hb6 _))
        case d0 => rfl
        case d1 => omega
        case c0 => rfl
        case c1 => omega
        have hb7 := hide ((e4.out _).trans (hb5.out.trans ((Below.refl _ _).alloc hz5' _ |>.trans hb6)))
        rw [← e1.out] at hown6
        go_roundw
        case rel => exact ⟨k + 1, m + 1 + 1, A6, c6, by omega, by omega, by go_num, rfl, by rw [e2.out], hown6, hb7.out⟩
        case measure => simp [intOf]; omega
      · have e1 : Hid (outI l x (k + 1) = outI l x k ++ [y]) := by show _ = _; rw [ho, if_neg (fun c => one ⟨c.1, c.2.2⟩)]
        replace hd := hide hd
        clear ho
        have e4 := hide (show ∀ o, Below w.heap.size w (wr.alloc o) from fun o => hb.out.alloc hz o)
        cases d0 : doneI l x k with
        | true =>
          have e2 : Hid (doneI l x (k + 1) = true) := by show _ = _; rw [hd.out, d0]; rfl
          clear hd d0 one
          go_wp2_with (first
            | (at_builtin; (with_reducible refine wpList_app rfl (.tmp 35) (.tmp 40) rfl hE.out flat_iv rfl (hown.out.alloc _) rfl (Sl.lit1' wr 2 y _ rfl 1 _ ?d0) ?d1 (hza _) ?_); rotate_right; intro A6 c6 w6 hown6 hgr6 hb6 _))
          case d0 => rfl
          case d1 => omega
          have hb7 := hide ((e4.out _).trans hb6)
          rw [← e1.out] at hown6
          go_roundw
          case rel => exact ⟨k + 1, m + 1, A6, c6, by omega, by omega, by go_num, rfl, by rw [e2.out], hown6, hb7.out⟩
          case measure => simp [intOf]; omega
        | false =>
          by_cases hxy : x ≤ y
          · have e2 : Hid (doneI l x (k + 1) = true) := by show _ = _; rw [hd.out, d0, decide_eq_true hxy]; rfl
            have hge : decide (y ≥ x) = true := decide_eq_true (by omega)
            have hge2 : y ≥ x := by omega
            have hgt : ¬ y > x := fun c => one ⟨d0, c⟩
            clear hd d0 one
            go_wp2_with (first
              | (at_builtin; (with_reducible refine wpList_app rfl (.tmp 35) (.tmp 40) rfl hE.out flat_iv rfl (hown.out.alloc _) rfl (Sl.lit1' wr 2 y _ rfl 1 _ ?d0) ?d1 (hza _) ?_); rotate_right; intro A6 c6 w6 hown6 hgr6 hb6 _))
            case d0 => rfl
            case d1 => omega
            have hb7 := hide ((e4.out _).trans hb6)
            rw [← e1.out] at hown6
            go_roundw
            case rel => exact ⟨k + 1, m + 1, A6, c6, by omega, by omega, by go_num, rfl, by rw [e2.out], hown6, hb7.out⟩
            case measure => simp [intOf]; omega
          · have e2 : Hid (doneI l x (k + 1) = false) := by show _ = _; rw [hd.out, d0, decide_eq_false hxy]; rfl
            have hge : decide (y ≥ x) = false := decide_eq_false (by omega)
            have hge2 : ¬ y ≥ x := by omega
            clear hd d0 one
            go_wp2_with (first
              | (at_builtin; (with_reducible refine wpList_app rfl (.tmp 35) (.tmp 40) rfl hE.out flat_iv rfl (hown.out.alloc _) rfl (Sl.lit1' wr 2 y _ rfl 1 _ ?d0) ?d1 (hza _) ?_); rotate_right; intro A6 c6 w6 hown6 hgr6 hb6 _))
            case d0 => rfl
            case d1 => omega
            have hb7 := hide ((e4.out _).trans hb6)
            rw [← e1.out] at hown6
            go_roundw
            case rel => exact ⟨k + 1, m + 1, A6, c6, by omega, by omega, by go_num, rfl, by rw [e2.out], hown6, hb7.out⟩
            case measure => simp [intOf]; omega
    · obtain rfl : k = n := by omega
      have hend := outI_end (n := x) hasc.out
      rw [hlen] at hend
      have hz := hb.size
      replace hb := hide hb
      cases d0 : doneI l x k with
      | true =>
        rw [d0, if_pos rfl] at hend
        rw [hend] at hown
        clear hend
        go_wp2_with fail
        go_ret
        exact ⟨_, _, _, rfl, hown.out, by omega, hb.out⟩
      | false =>
        rw [d0, if_neg Bool.false_ne_true] at hend
        replace hend := hide hend
        have hza : ∀ o, w.heap.size ≤ (wr.alloc o).heap.size := fun o => by rw [World.size_alloc]; omega
        have hm2 : m ≤ k := by
          have h1 := hown.out.len
          have h2 : outI l x k = l.take k := by unfold outI; rw [d0]; rfl
          rw [h2, List.length_take] at h1
          omega
        have e4 := hide (show ∀ o, Below w.heap.size w (wr.alloc o) from fun o => hb.out.alloc hz o)
        go_wp2_with (first
          | (at_builtin; (with_reducible refine wpList_app rfl (.tmp 44) (.tmp 46) rfl hE.out flat_iv rfl (hown.out.alloc _) rfl (Sl.lit1' wr 2 x _ rfl 1 _ ?d0) ?d1 (hza _) ?_); rotate_right; intro A6 c6 w6 hown6 hgr6 hb6 _))
        case d0 => rfl
        case d1 => omega
        have hb7 := hide ((e4.out _).trans hb6)
        rw [hend.out] at hown6
        go_wp2_with fail
        go_ret
        exact ⟨_, _, _, rfl, hown6, by omega, hb7.out⟩

end Go.Proofs.Ythmhlbkkhaplkaa

namespace Go.Proofs.Ythmhlbkkhaplkaa
open Go
set_option linter.unusedVariables false

section
variable {P : Program} {ops : Array Oper} {Q : Exit → Act → World → Prop} {md : Region.Mode} {S : World → Prop} {st : Nat}

/-- Any order from here on; S holds behind each operation but number st. -/
def lateT (P : Program) (md : Region.Mode) (ops : Array Oper) (Q : Exit → Act → World → Prop) (S : World → Prop) (st : Nat) : Nat → Array Bool → Act → World → Prop
  | 0, got, a, w => Region.ready md ops got = [] ∧ Q .normal a w
  | m + 1, got, a, w => (Region.ready md ops got = [] → Q .normal a w) ∧
    ∀ i ∈ Region.ready md ops got, wpOp P ops Q i (fun a' w' => (i ≠ st → S w') ∧ lateT P md ops Q S st m (got.setIfInBounds i true) a' w') a w
theorem lateT.any : ∀ (m : Nat) (got : Array Bool) (a : Act) (w : World), lateT P md ops Q S st m got a w → wpAny P md ops Q m got a w
  | 0, _, _, _, h => h
  | m + 1, got, _, _, h => ⟨h.1, fun i hi => wpOp_mono (fun a' w' k => lateT.any m _ a' w' k.2) (h.2 i hi)⟩

/-- Each of these waits for the one ahead of it. -/
def chainW (md : Region.Mode) (ops : Array Oper) : Nat → List Nat → Bool
  | _, [] => true
  | i, d :: ds => Region.waitsFor md ops d i && chainW md ops d ds
def openW (got : Array Bool) (ds : List Nat) : Bool := ds.all fun d => !got.getD d true
theorem openW_mem {got : Array Bool} {ds : List Nat} (h : openW got ds = true) {d : Nat} (hd : d ∈ ds) : got.getD d true = false := by
  unfold openW at h
  have := List.all_eq_true.1 h d hd
  simpa using this
theorem chainW_shut {got : Array Bool} : ∀ (ds : List Nat) (i : Nat), chainW md ops i ds = true → got.getD i true = false → openW got ds = true → ∀ d ∈ ds, d ∉ Region.ready md ops got
  | [], _, _, _, _, d, hd => by cases hd
  | e :: ds, i, h, hi, ho, d, hd => by
    unfold chainW at h
    rw [Bool.and_eq_true] at h
    have he : got.getD e true = false := openW_mem ho (by simp)
    rcases List.mem_cons.1 hd with rfl | hd
    · intro hr
      obtain ⟨oj, h1, x, hx, hb, hon⟩ := Region.waitsFor_spec h.1
      obtain ⟨-, o, h2, h3⟩ := mem_ready.1 hr
      rw [h1] at h2
      obtain rfl := Option.some.inj h2
      have := h3 x hx hb
      rw [hon, getD_both hi] at this
      cases this
    · exact chainW_shut ds e h.2 he (by unfold openW at ho ⊢; rw [List.all_cons, Bool.and_eq_true] at ho; exact ho.2) d hd

theorem lateT_first {i : Nat} {oi : Oper} {v : Value} {ds : List Nat} (hi : ops[i]? = some oi) (hsel : Region.noSelect ops = true) (hc : chainW md ops i ds = true) (hst : st ∈ ds)
    (hQ : ∀ c a w, Q (.panic c) (a.put oi.dst v) w → Q (.panic c) a w) : ∀ (m : Nat) (got : Array Bool) (a : Act) (w : World),
      (∀ j oj, ops[j]? = some oj → j ≠ i → got.getD j true = false → (∀ e ∈ oj.after, Region.binds md e = true → e.on ≠ i) → oi.apart ops oj = true) →
      i ∈ Region.ready md ops got → openW got ds = true → YieldsIf P ops S oi v a → S w →
      lateT P md ops Q S st m (got.setIfInBounds i true) (a.put oi.dst v) w → lateT P md ops Q S st (m + 1) got a w
  | 0, got, a, w, _, hr, _, hy, hS, H => by
    refine ⟨fun h => (by rw [h] at hr; cases hr), fun j hj => ?_⟩
    by_cases hji : j = i
    · subst hji; exact hy.wpOp hi hS ⟨fun _ => hS, H⟩
    · have := ready_mono hj hji
      rw [H.1] at this
      cases this
  | m + 1, got, a, w, hfree, hr, ho, hy, hS, H => by
    refine ⟨fun h => (by rw [h] at hr; cases hr), fun j hj => ?_⟩
    by_cases hji : j = i
    · subst hji; exact hy.wpOp hi hS ⟨fun _ => hS, H⟩
    · have h1 := H.2 j (ready_mono hj hji)
      obtain ⟨hjun, oj, hoj, hall⟩ := mem_ready.1 hj
      have hi0 := (mem_ready.1 hr).1
      have hjd : j ∉ ds := fun hm => chainW_shut ds i hc hi0 ho j hm hj
      have hjst : j ≠ st := fun e => hjd (e ▸ hst)
      have hnot : ∀ e ∈ oj.after, Region.binds md e = true → e.on ≠ i := fun e he hb heq => by
        have h2 := hall e he hb
        rw [heq, getD_both hi0] at h2
        cases h2
      have h2 := wpOp_putIf hoj (hfree j oj hoj hji hjun hnot) (fun cs b => Region.noSelect_spec hsel i oi cs b hi) (fun cs b => Region.noSelect_spec hsel j oj cs b hoj) hQ hy h1
      refine wpOp_mono (fun a' w' h3 => ⟨h3.2.1, lateT_first hi hsel hc hst hQ m (got.setIfInBounds j true) a' w' (fun k ok hk hki hun hno => ?_) (ready_mono hr (Ne.symm hji)) ?_ h3.1 (h3.2.1 hjst) ?_⟩) h2
      · refine hfree k ok hk hki ?_ hno
        by_cases hjk : j = k
        · subst hjk; exact hjun
        · rw [getD_set_ne true hjk] at hun; exact hun
      · unfold openW
        rw [List.all_eq_true]
        intro d hd
        rw [getD_set_ne true (fun e : j = d => hjd (by rw [e]; exact hd)), openW_mem ho hd]
        rfl
      · rw [Array.setIfInBounds_comm _ _ hji]
        exact h3.2.2
/-- A read, an address, a copy is taken first. -/
theorem lateT_take {i : Nat} {oi : Oper} {v : Value} {m : Nat} {got : Array Bool} {a : Act} {w : World} (ds : List Nat) (hi : ops[i]? = some oi) (hsel : Region.noSelect ops = true) (hf : Region.free md ops got i = true)
    (hr : (Region.ready md ops got).contains i = true) (hc : (chainW md ops i ds && openW got ds && ds.contains st) = true) (hQ : ∀ c a w, Q (.panic c) (a.put oi.dst v) w → Q (.panic c) a w) (hy : YieldsIf P ops S oi v a) (hS : S w)
    (h : lateT P md ops Q S st m (got.setIfInBounds i true) (a.put oi.dst v) w) : lateT P md ops Q S st (m + 1) got a w := by
  rw [Bool.and_eq_true, Bool.and_eq_true] at hc
  exact lateT_first hi hsel hc.1.1 (by simpa using hc.2) hQ m got a w (Region.free_spec hi hf) (by simpa using hr) hc.1.2 hy hS h
/-- The only operation that may come. -/
theorem lateT_step {i : Nat} {o : Oper} {m : Nat} {got : Array Bool} {a : Act} {w : World} (hr : Region.ready md ops got = [i]) (ho : ops[i]? = some o)
    (h : ∀ K : Act → World → Prop, Shut (∀ a w, (i ≠ st → S w) → lateT P md ops Q S st m (got.setIfInBounds i true) a w → K a w) → if Region.wanted o (yielded ops a.tmps) = true then Oper.wp P o a w K Q else K (a.put o.dst undef) w) : lateT P md ops Q S st (m + 1) got a w := by
  refine ⟨fun h0 => (by rw [hr] at h0; cases h0), fun j hj => ?_⟩
  rw [hr] at hj
  obtain rfl := List.mem_singleton.1 hj
  exact wpOp_step ho fun K hK => h K fun a w hS hl => hK a w ⟨hS, hl⟩
theorem lateT_done {got : Array Bool} {a : Act} {w : World} (hr : Region.ready md ops got = []) (h : Q .normal a w) : ∀ m, lateT P md ops Q S st m got a w
  | 0 => ⟨hr, h⟩
  | _ + 1 => ⟨fun _ => h, by rw [hr]; simp⟩
theorem lateT_begin {id : Nat} {a : Act} {w : World} (hm : P.follows .mixedOrders = true) (h : lateT P .any ops Q S st ops.size (Array.replicate ops.size false) a w.drew) : (Code.region id ops true).wp P Q a w :=
  wp_region_any hm (lateT.any _ _ _ _ h)
end

end Go.Proofs.Ythmhlbkkhaplkaa
