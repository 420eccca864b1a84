/-
  Distances along the edges of a system, plain. Conditions: none.
-/
import Derived.Test.YtiaclddgllkgpaaGreatDoorDistMath
import Derived.Test.YtiaclddgllkgpaaGreatDoorBaseA
namespace Go.Proofs.YtiaclddgllkgpaaGreatDoor
set_option linter.unusedVariables false

/-- An arc along an edge, forward or backward. -/
def arcE (fw : Bool) (es : List Ed) (a k : Nat) : Prop := ∃ e : Ed, e ∈ es ∧ (if fw = true then e.1 = (a : Int) ∧ e.2.2 = (k : Int) else e.2.2 = (a : Int) ∧ e.1 = (k : Int))
def srcE (l : List Int) (k : Nat) : Prop := (k : Int) ∈ l
/-- The distances. -/
noncomputable def distF (fw : Bool) (N : Nat) (es : List Ed) (l : List Int) : List Int :=
  open Classical in if h : ∃ out, DistIs (srcE l) (arcE fw es) N out then h.choose else []
theorem distF_of {fw : Bool} {N : Nat} {es : List Ed} {l : List Int} {out : List Int} (h : DistIs (srcE l) (arcE fw es) N out) : distF fw N es l = out := by
  have hx : ∃ out, DistIs (srcE l) (arcE fw es) N out := ⟨out, h⟩
  unfold distF
  rw [dif_pos hx]
  exact DistIs.uniq _ _ hx.choose_spec h
theorem distF_is {fw : Bool} {N : Nat} {es : List Ed} {l : List Int} {out : List Int} (h : DistIs (srcE l) (arcE fw es) N out) : DistIs (srcE l) (arcE fw es) N (distF fw N es l) := by
  rw [distF_of h]; exact h

/-! ## Rounds over edges, backward -/
def seenE (es : List Ed) (i : Nat) (a k : Nat) : Prop := arcE false (es.take i) a k
theorem seenE_all {es : List Ed} {i : Nat} (h : es.length ≤ i) : seenE es i = arcE false es := by
  unfold seenE
  rw [List.take_of_length_le h]
theorem seenE_succ {es : List Ed} {i : Nat} {e : Ed} (hx : es[i]? = some e) (a k : Nat) : seenE es (i + 1) a k ↔ seenE es i a k ∨ (e.2.2 = (a : Int) ∧ e.1 = (k : Int)) := by
  unfold seenE arcE
  rw [List.take_add_one, hx]
  constructor
  · rintro ⟨e', hm, h⟩
    rcases List.mem_append.1 hm with hm | hm
    · exact .inl ⟨e', hm, h⟩
    · simp at hm
      subst hm
      exact .inr (by simpa using h)
  · rintro (⟨e', hm, h⟩ | h)
    · exact ⟨e', List.mem_append.2 (.inl hm), h⟩
    · exact ⟨e, by simp, by simpa using h⟩
theorem mid_zero {src : Nat → Prop} {arc : Nat → Nat → Prop} {N n : Nat} {out : List Int} (hl : out.length = N) {es : List Ed} : MidIs N n (seenE es 0) out out := by
  refine ⟨hl, fun k x hx => ⟨fun _ => hx, fun _ => ⟨?_, fun _ => hx⟩⟩⟩
  rintro ⟨a, y, ⟨e, hm, _⟩, _⟩
  simp at hm
section
variable {N n : Nat} {es : List Ed} {out next : List Int} {i : Nat} {e : Ed}
/-- An edge whose end is not told yet, or whose beginning is: nothing changes. -/
theorem mid_skip (g : MidIs N n (seenE es i) out next) (hx : es[i]? = some e) {b : Nat} (hb : e.2.2 = (b : Int)) {y : Int} (hy : out[b]? = some y) (h0 : y < 0) : MidIs N n (seenE es (i + 1)) out next := by
  refine ⟨g.1, fun k x hk => ⟨(g.2 k x hk).1, fun hneg => ⟨?_, ?_⟩⟩⟩
  · rintro ⟨a, z, hs, hz, hz0⟩
    rw [seenE_succ hx] at hs
    rcases hs with hs | ⟨h1, -⟩
    · exact ((g.2 k x hk).2 hneg).1 ⟨a, z, hs, hz, hz0⟩
    · have : a = b := by omega
      subst this
      rw [hy] at hz
      cases hz
      omega
  · intro hn
    refine ((g.2 k x hk).2 hneg).2 fun ⟨a, z, hs, hz, hz0⟩ => hn ⟨a, z, (seenE_succ hx a k).2 (.inl hs), hz, hz0⟩
theorem mid_known (g : MidIs N n (seenE es i) out next) (hx : es[i]? = some e) {f : Nat} (hf : e.1 = (f : Int)) {z : Int} (hz : next[f]? = some z) (h0 : 0 ≤ z) (hzn : ∀ x, out[f]? = some x → x < 0 → z = (n : Int) + 1) : MidIs N n (seenE es (i + 1)) out next := by
  refine ⟨g.1, fun k x hk => ⟨(g.2 k x hk).1, fun hneg => ⟨?_, ?_⟩⟩⟩
  · rintro ⟨a, y, hs, hy, hy0⟩
    rw [seenE_succ hx] at hs
    rcases hs with hs | ⟨-, h1⟩
    · exact ((g.2 k x hk).2 hneg).1 ⟨a, y, hs, hy, hy0⟩
    · have : k = f := by omega
      subst this
      rw [hz, hzn x hk hneg]
  · intro hn
    refine ((g.2 k x hk).2 hneg).2 fun ⟨a, z, hs, hz, hz0⟩ => hn ⟨a, z, (seenE_succ hx a k).2 (.inl hs), hz, hz0⟩
theorem mid_set (g : MidIs N n (seenE es i) out next) (hx : es[i]? = some e) {f b : Nat} (hf : e.1 = (f : Int)) (hb : e.2.2 = (b : Int)) {y z : Int} (hy : out[b]? = some y) (h0 : 0 ≤ y) (hz : next[f]? = some z) (hz0 : z < 0) : MidIs N n (seenE es (i + 1)) out (next.set f ((n : Int) + 1)) := by
  have hfl : f < next.length := (List.getElem?_eq_some_iff.1 hz).1
  have hout : ∀ x, out[f]? = some x → x < 0 := fun x hk => by
    rcases Int.lt_or_le x 0 with h | h
    · exact h
    · have := (g.2 f x hk).1 h
      rw [hz] at this
      cases this
      omega
  refine ⟨by rw [List.length_set]; exact g.1, fun k x hk => ?_⟩
  by_cases hkf : k = f
  · subst hkf
    have hneg := hout x hk
    refine ⟨fun h => absurd hneg (by omega), fun _ => ⟨fun _ => List.getElem?_set_self hfl, fun hn => ?_⟩⟩
    exact absurd ⟨b, y, (seenE_succ hx b k).2 (.inr ⟨hb, hf⟩), hy, h0⟩ hn
  · rw [List.getElem?_set_ne (fun e' => hkf e'.symm)]
    refine ⟨(g.2 k x hk).1, fun hneg => ⟨?_, ?_⟩⟩
    · rintro ⟨a, u, hs, hu, hu0⟩
      rw [seenE_succ hx] at hs
      rcases hs with hs | ⟨-, h1⟩
      · exact ((g.2 k x hk).2 hneg).1 ⟨a, u, hs, hu, hu0⟩
      · exact absurd (by omega) hkf
    · intro hn
      refine ((g.2 k x hk).2 hneg).2 fun ⟨a, u, hs, hu, hu0⟩ => hn ⟨a, u, (seenE_succ hx a k).2 (.inl hs), hu, hu0⟩
end

/-! ## More on rounds -/
def negs : List Int → Nat
  | [] => 0
  | x :: l => (if x < 0 then 1 else 0) + negs l
theorem negs_set : ∀ {l : List Int} {k : Nat} {z v : Int}, l[k]? = some z → z < 0 → 0 ≤ v → negs (l.set k v) + 1 = negs l
  | [], k, z, v, h, _, _ => by simp at h
  | x :: l, 0, z, v, h, hz, hv => by
    simp at h
    subst h
    simp only [List.set_cons_zero, negs]
    rw [if_neg (by omega), if_pos hz]
    omega
  | x :: l, k + 1, z, v, h, hz, hv => by
    have := negs_set (l := l) (k := k) (v := v) (by simpa using h) hz hv
    simp only [List.set_cons_succ, negs]
    omega
theorem negs_le : ∀ (l : List Int), negs l ≤ l.length
  | [] => Nat.le_refl _
  | x :: l => by
    have := negs_le l
    simp only [negs, List.length_cons]
    split <;> omega
section
variable {es : List Ed} {vs : List Int} {N rd i : Nat} {out nx : List Int}
theorem round_from (h : RoundIs (srcE vs) (arcE false es) N rd out) {b f : Nat} {y z : Int} (ha : arcE false es b f) (hy : out[b]? = some y) (h0 : 0 ≤ y) (hz : out[f]? = some z) (hz0 : z < 0) : y = rd := by
  have h1 := (h.2 b y hy).1 h0
  have h2 := (h.2 f z hz).2 hz0
  rcases Int.lt_or_le y rd with h3 | h3
  · exact absurd (lay_mono _ _ (n := y.toNat + 1) (.inr ⟨b, h1.1.1, ha⟩) (by omega)) h2.2
  · omega
theorem round_near (h : RoundIs (srcE vs) (arcE false es) N rd out) {b f : Nat} {y z : Int} (ha : arcE false es b f) (hy : out[b]? = some y) (h0 : 0 ≤ y) (hz : out[f]? = some z) (hz0 : 0 ≤ z) : z ≤ y + 1 := by
  have h1 := (h.2 b y hy).1 h0
  have h2 := (h.2 f z hz).1 hz0
  rcases Int.lt_or_le (y + 1) z with h3 | h3
  · exact absurd (.inr ⟨b, h1.1.1, ha⟩) (h2.1.2 (y.toNat + 1) (by omega))
  · exact h3
theorem mid_get (g : MidIs N rd (seenE es i) out nx) (hl : out.length = N) {k : Nat} (hk : k < N) : ∃ x z : Int, out[k]? = some x ∧ nx[k]? = some z :=
  ⟨_, _, List.getElem?_eq_getElem (by omega), List.getElem?_eq_getElem (by rw [g.1]; omega)⟩
/-- What is told in the round is what was, or one more than the round. -/
theorem mid_val (g : MidIs N rd (seenE es i) out nx) {k : Nat} {x z : Int} (hx : out[k]? = some x) (hz : nx[k]? = some z) (h0 : 0 ≤ z) : (0 ≤ x ∧ z = x) ∨ (x < 0 ∧ z = (rd : Int) + 1) := by
  rcases Int.lt_or_le x 0 with h1 | h1
  · refine .inr ⟨h1, ?_⟩
    obtain ⟨h2, h3⟩ := (g.2 k x hx).2 h1
    by_cases hs : ∃ (a : Nat) (y : Int), seenE es i a k ∧ out[a]? = some y ∧ 0 ≤ y
    · have := h2 hs
      rw [hz] at this
      exact Option.some.inj this
    · have := h3 hs
      rw [hz] at this
      have := Option.some.inj this
      omega
  · have := (g.2 k x hx).1 h1
    rw [hz] at this
    exact .inl ⟨h1, Option.some.inj this⟩
theorem mid_stop (g : MidIs N rd (arcE false es) out out) : ∀ (a k : Nat) (x y : Int), arcE false es a k → out[a]? = some x → out[k]? = some y → 0 ≤ x → 0 ≤ y := fun a k x y ha hx hy h0 => by
  rcases Int.lt_or_le y 0 with h1 | h1
  · have := ((g.2 k y hy).2 h1).1 ⟨a, x, ha, hx, h0⟩
    rw [hy] at this
    have := Option.some.inj this
    omega
  · exact h1
theorem arcE_in {N : Nat} (h : ∀ e ∈ es, (0 ≤ e.1 ∧ e.1 < (N : Int)) ∧ (0 ≤ e.2.2 ∧ e.2.2 < (N : Int))) {fw : Bool} : ∀ a k, arcE fw es a k → a < N ∧ k < N := by
  rintro a k ⟨e, he, h1⟩
  have := h e he
  cases fw
  · rw [if_neg (by decide)] at h1
    omega
  · rw [if_pos rfl] at h1
    omega
end
/-- The first round: 0 for the beginnings. -/
def startL (vs : List Int) (k : Nat) : List Int := (List.range k).map fun (j : Nat) => if vs.any (fun x => decide (x = (j : Int))) = true then 0 else -1
theorem startL_succ (vs : List Int) (k : Nat) : startL vs (k + 1) = startL vs k ++ [if vs.any (fun x => decide (x = (k : Int))) = true then 0 else -1] := by
  unfold startL
  rw [List.range_succ, List.map_append]
  rfl
theorem startL_len (vs : List Int) (k : Nat) : (startL vs k).length = k := by simp [startL]
theorem startL_get {vs : List Int} {N : Nat} : ∀ (k : Nat) (x : Int), (startL vs N)[k]? = some x → (x = 0 ∧ srcE vs k) ∨ (x = -1 ∧ ¬ srcE vs k) := by
  intro k x hx
  have hk : k < N := by
    have := (List.getElem?_eq_some_iff.1 hx).1
    rwa [startL_len] at this
  unfold startL at hx
  rw [List.getElem?_map, List.getElem?_range hk] at hx
  simp only [Option.map_some, Option.some.injEq] at hx
  unfold srcE
  by_cases h : vs.any (fun x => decide (x = (k : Int))) = true
  · rw [if_pos h] at hx
    obtain ⟨y, hy, he⟩ := List.any_eq_true.1 h
    have : y = (k : Int) := by simpa using he
    subst this
    exact .inl ⟨hx.symm, hy⟩
  · rw [if_neg h] at hx
    refine .inr ⟨hx.symm, fun hm => h (List.any_eq_true.2 ⟨_, hm, by simp⟩)⟩

end Go.Proofs.YtiaclddgllkgpaaGreatDoor
