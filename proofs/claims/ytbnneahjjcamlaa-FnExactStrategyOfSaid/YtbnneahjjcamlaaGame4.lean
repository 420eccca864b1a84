/-
  Games on graphs: the least priority, and one step of the recursive computation of winners in the shapes that the program and the reference use. Conditions: none; plain lists.
-/
import Derived.Test.YtbnneahjjcamlaaGame3
namespace Go.Proofs.Ytbnneahjjcamlaa
set_option linter.unusedVariables false

/-- The least priority among the first k vertices that are alive. -/
def minStep (g : DV) (alive : List Bool) (a : Option Int) (v : Nat) : Option Int := if inS alive v then some (match a with | none => gPri g v | some m => min m (gPri g v)) else a
def minK (g : DV) (alive : List Bool) (k : Nat) : Option Int := (List.range k).foldl (minStep g alive) none
theorem leastP_min (g : DV) (alive : List Bool) : leastP g alive = minK g alive g.length := rfl
theorem minK_zero (g : DV) (alive : List Bool) : minK g alive 0 = none := rfl
theorem minK_succ (g : DV) (alive : List Bool) (k : Nat) : minK g alive (k + 1) = minStep g alive (minK g alive k) k := by unfold minK; rw [List.range_succ, List.foldl_append]; rfl
theorem minK_spec (g : DV) (alive : List Bool) (k : Nat) : match minK g alive k with
    | none => ∀ v, v < k → inS alive v = false
    | some m => (∃ v, v < k ∧ inS alive v = true ∧ gPri g v = m) ∧ ∀ v, v < k → inS alive v = true → m ≤ gPri g v := by
  induction k with
  | zero => rw [minK_zero]; intro v hv; omega
  | succ k ih =>
    rw [minK_succ]
    unfold minStep
    by_cases ha : inS alive k = true
    · rw [if_pos ha]
      cases h : minK g alive k with
      | none =>
        rw [h] at ih
        refine ⟨⟨k, by omega, ha, rfl⟩, fun v hv hav => ?_⟩
        by_cases e : v = k
        · subst e; exact Int.le_refl _
        · rw [ih v (by omega)] at hav; cases hav
      | some m =>
        rw [h] at ih
        obtain ⟨⟨u, hu, hua, hum⟩, hle⟩ := ih
        refine ⟨?_, fun v hv hav => ?_⟩
        · rcases Int.le_total m (gPri g k) with h1 | h1
          · exact ⟨u, by omega, hua, by show gPri g u = min m (gPri g k); omega⟩
          · exact ⟨k, by omega, ha, by show gPri g k = min m (gPri g k); omega⟩
        · show min m (gPri g k) ≤ gPri g v
          by_cases e : v = k
          · subst e; omega
          · have := hle v (by omega) hav; omega
    · rw [if_neg ha]
      cases h : minK g alive k with
      | none =>
        rw [h] at ih
        intro v hv
        by_cases e : v = k
        · subst e; simpa using ha
        · exact ih v (by omega)
      | some m =>
        rw [h] at ih
        obtain ⟨⟨u, hu, hua, hum⟩, hle⟩ := ih
        refine ⟨⟨u, by omega, hua, hum⟩, fun v hv hav => ?_⟩
        by_cases e : v = k
        · subst e; exact absurd hav ha
        · exact hle v (by omega) hav

section
variable {g : DV} {alive : List Bool}
theorem leastP_none (hal : alive.length = g.length) (h : ∀ v, inS alive v = false) : leastP g alive = none := by
  have := minK_spec g alive g.length
  rw [leastP_min]
  cases e : minK g alive g.length with
  | none => rfl
  | some m =>
    rw [e] at this
    obtain ⟨⟨u, _, hua, _⟩, _⟩ := this
    rw [h u] at hua; cases hua
theorem leastP_some {m : Int} {u : Nat} (hal : alive.length = g.length) (hu : inS alive u = true) (hm : gPri g u = m) (hle : ∀ v, inS alive v = true → m ≤ gPri g v) : leastP g alive = some m := by
  have := minK_spec g alive g.length
  rw [leastP_min]
  cases e : minK g alive g.length with
  | none =>
    rw [e] at this
    rw [this u (by rw [← hal]; exact inS_lt hu)] at hu; cases hu
  | some m' =>
    rw [e] at this
    obtain ⟨⟨x, _, hxa, hxm⟩, hle'⟩ := this
    have h1 := hle x hxa
    have h2 := hle' u (by rw [← hal]; exact inS_lt hu) hu
    congr 1
    omega
theorem leastP_at {m : Int} (h : leastP g alive = some m) : ∃ v, v < g.length ∧ inS alive v = true ∧ gPri g v = m := by
  have := minK_spec g alive g.length
  rw [leastP_min] at h
  rw [h] at this
  exact this.1
theorem leastP_no (h : leastP g alive = none) (hal : alive.length = g.length) : ∀ v, inS alive v = false := fun v => by
  have := minK_spec g alive g.length
  rw [leastP_min] at h
  rw [h] at this
  by_cases hv : v < g.length
  · exact this v hv
  · exact inS_big (by omega)

/-- The sets of one step. -/
def firstF (g : DV) (alive : List Bool) (least : Int) : List Bool := setOf g.length fun v => inS alive v && decide (gPri g v = least)
noncomputable def aimF (g : DV) (alive : List Bool) (least : Int) : List Bool := attrF g alive (least % 2) (firstF g alive least)
noncomputable def lessF (g : DV) (alive less : List Bool) : List Bool := setOf g.length fun v => inS alive v && !inS less v
noncomputable def otherF (g : DV) (rest won : List Bool) (player : Int) : List Bool := setOf g.length fun v => inS rest v && (inS won v != decide (player = 1))

theorem otherF_len (rest won : List Bool) (player : Int) : (otherF g rest won player).length = g.length := setOf_len _ _
theorem winF_none {f : Nat} (h : leastP g alive = none) : winF g f alive = setOf g.length fun _ => false := by
  cases f with
  | zero => rfl
  | succ f => unfold winF; rw [h]
theorem winF_stop {f : Nat} {least : Int} (h : leastP g alive = some least) (hno : anyS (otherF g (lessF g alive (aimF g alive least)) (winF g f (lessF g alive (aimF g alive least))) (least % 2)) = false) :
    winF g (f + 1) alive = setOf g.length fun v => inS alive v && decide (least % 2 = 1) := by
  rw [anyS_range (otherF_len _ _ _)] at hno
  show (match leastP g alive with | none => _ | some least => _) = _
  rw [h]
  dsimp only
  unfold otherF lessF aimF firstF at hno
  rw [hno]
  rfl
theorem winF_go {f : Nat} {least : Int} (h : leastP g alive = some least) (hyes : anyS (otherF g (lessF g alive (aimF g alive least)) (winF g f (lessF g alive (aimF g alive least))) (least % 2)) = true) :
    winF g (f + 1) alive = (let lost := attrF g alive (1 - least % 2) (otherF g (lessF g alive (aimF g alive least)) (winF g f (lessF g alive (aimF g alive least))) (least % 2))
      setOf g.length fun v => inS alive v && ((inS lost v && decide (least % 2 = 0)) || (!inS lost v && inS (winF g f (lessF g alive lost)) v))) := by
  rw [anyS_range (otherF_len _ _ _)] at hyes
  show (match leastP g alive with | none => _ | some least => _) = _
  rw [h]
  dsimp only
  unfold otherF lessF aimF firstF at hyes
  rw [hyes]
  rfl

theorem inS_lessF {less : List Bool} {v : Nat} : inS (lessF g alive less) v = (decide (v < g.length) && (inS alive v && !inS less v)) := inS_setOf
theorem firstF_sub {least : Int} {v : Nat} (h : inS (firstF g alive least) v = true) : inS alive v = true := by
  unfold firstF at h; rw [inS_setOf] at h; simp at h; exact h.2.1
theorem otherF_sub {less won : List Bool} {player : Int} {v : Nat} (h : inS (otherF g (lessF g alive less) won player) v = true) : inS alive v = true := by
  unfold otherF at h; rw [inS_setOf, inS_lessF] at h; simp at h; exact h.2.1.2.1
/-- What is left is less. -/
theorem rest_lt {least : Int} (hal : alive.length = g.length) (h : leastP g alive = some least) : numS (lessF g alive (aimF g alive least)) < numS alive := by
  obtain ⟨v, hv, ha, hp⟩ := leastP_at h
  refine numS_lt (by rw [hal]; exact setOf_len _ _) (fun u hu => by rw [inS_lessF] at hu; simp at hu; exact hu.2.1) ha ?_
  rw [inS_lessF]
  have : inS (aimF g alive least) v = true := (inS_attrF hal fun _ => firstF_sub).2 (.base (by unfold firstF; rw [inS_setOf]; simp [hv, ha, hp]))
  simp [this]
theorem lost_lt {least : Int} {won : List Bool} {player p2 : Int} (hal : alive.length = g.length) (h : anyS (otherF g (lessF g alive (aimF g alive least)) won player) = true) :
    numS (lessF g alive (attrF g alive p2 (otherF g (lessF g alive (aimF g alive least)) won player))) < numS alive := by
  rw [anyS_range (otherF_len _ _ _), List.any_eq_true] at h
  obtain ⟨v, hv, hq⟩ := h
  refine numS_lt (by rw [hal]; exact setOf_len _ _) (fun u hu => by rw [inS_lessF] at hu; simp at hu; exact hu.2.1) (otherF_sub hq) ?_
  rw [inS_lessF, (inS_attrF hal fun _ => otherF_sub).2 (.base hq)]
  simp

/-- The reference's shapes. -/
theorem other_zero {rest : List Bool} {f : Nat} (hr : rest.length = g.length) : otherF g rest (winF g f rest) 0 = winF g f rest := by
  refine inS_ext (by rw [winF_len]; exact setOf_len _ _) fun v hv => ?_
  unfold otherF
  rw [inS_setOf]
  have hv' : v < g.length := by have : (otherF g rest (winF g f rest) 0).length = g.length := setOf_len _ _; omega
  cases h : inS (winF g f rest) v with
  | false => simp
  | true => simp [hv', winF_sub _ _ _ h]
theorem other_one {rest : List Bool} {f : Nat} : otherF g rest (winF g f rest) 1 = lessF g rest (winF g f rest) := setOf_congr fun v hv => by cases inS (winF g f rest) v <;> simp
theorem stop_one (hal : alive.length = g.length) : (setOf g.length fun v => inS alive v && decide ((1 : Int) = 1)) = alive := by simp [setOf_inS hal]
theorem stop_zero : (setOf g.length fun v => inS alive v && decide ((0 : Int) = 1)) = setOf g.length fun _ => false := by simp
theorem go_one {lost : List Bool} {f : Nat} : (setOf g.length fun v => inS alive v && ((inS lost v && decide ((1 : Int) = 0)) || (!inS lost v && inS (winF g f (lessF g alive lost)) v))) = winF g f (lessF g alive lost) := by
  refine inS_ext (by rw [winF_len]; exact setOf_len _ _) fun v hv => ?_
  rw [setOf_len] at hv
  rw [inS_setOf]
  cases h : inS (winF g f (lessF g alive lost)) v with
  | false => simp
  | true =>
    have := winF_sub _ _ _ h
    rw [inS_lessF] at this
    simp at this
    simp [hv, this.2.1, this.2.2]
theorem go_zero {lost : List Bool} {f : Nat} (hsub : ∀ v, inS lost v = true → inS alive v = true) :
    (setOf g.length fun v => inS alive v && ((inS lost v && decide ((0 : Int) = 0)) || (!inS lost v && inS (winF g f (lessF g alive lost)) v))) = setOf g.length fun v => inS (winF g f (lessF g alive lost)) v || inS lost v := by
  refine setOf_congr fun v hv => ?_
  cases h : inS lost v with
  | true => simp [hsub v h]
  | false =>
    cases h2 : inS (winF g f (lessF g alive lost)) v with
    | false => simp
    | true =>
      have := winF_sub _ _ _ h2
      rw [inS_lessF] at this
      simp at this
      simp [this.2.1]
end

/-- The reference's least priority so far. -/
def leastI (a : Option Int) : Int := a.getD (-1)
theorem least_keep {g : DV} {alive : List Bool} {k : Nat} (h : inS alive k = false) : minK g alive (k + 1) = minK g alive k := by rw [minK_succ]; unfold minStep; rw [h]; rfl
theorem least_put {g : DV} {alive : List Bool} {k : Nat} (h : inS alive k = true) (hp : ∀ v, v ≤ k → 0 ≤ gPri g v) (hl : leastI (minK g alive k) < 0 ∨ gPri g k < leastI (minK g alive k)) : leastI (minK g alive (k + 1)) = gPri g k := by
  rw [minK_succ]; unfold minStep; rw [h]
  cases e : minK g alive k with
  | none => simp [leastI]
  | some m =>
    rw [e] at hl
    simp [leastI] at hl ⊢
    rcases hl with hl | hl
    · have := minK_spec g alive k
      rw [e] at this
      obtain ⟨⟨u, hu, _, hum⟩, _⟩ := this
      have := hp u (by omega)
      omega
    · omega
theorem least_old {g : DV} {alive : List Bool} {k : Nat} (h : inS alive k = true) (hl : ¬ (leastI (minK g alive k) < 0)) (hl2 : ¬ gPri g k < leastI (minK g alive k)) : leastI (minK g alive (k + 1)) = leastI (minK g alive k) := by
  rw [minK_succ]; unfold minStep; rw [h]
  cases e : minK g alive k with
  | none => rw [e] at hl; simp [leastI] at hl
  | some m =>
    rw [e] at hl hl2
    simp [leastI] at hl hl2 ⊢
    omega

end Go.Proofs.Ytbnneahjjcamlaa
