/-
  Several texts in one:
  Distances in a graph: by a queue and by rounds, both the least number of arcs. Conditions: none.
  Distances along the edges of a system, plain. Conditions: none.
  Lists of bool and of numbers in memory. Conditions: at most 1048576 elements.
  A queue of numbers (a slice of the call's own that is cut at its head and appended to at its end). Conditions: short queues.
  Distances, by the program: a queue. Conditions: sizes.
  Shortest paths from both ends; ways along numbered edges: plain. Conditions: none.
  A growing row of lists of numbers, each in a block of its own. Conditions: none.
  A drawn transition system, by the reference: valid and small. Conditions: fewer than 10^9 choices.
  A region that draws its order and ends in a store to a cell that it loads: reads are taken first, what is known of the world need not hold behind the last store. Conditions: none.
  A drawn transition system with many internal edges, by the reference: valid and small. Conditions: fewer than 10^9 choices.
  Partitions as lists of block numbers in the order of first occurrence; the lattice of partitions: plain. Conditions: none.
  Partitions of states refined by what the states can do, round after round: plain. Conditions: none.
  A valid system as an argument, boxed or not; the program's test of validity on it. Conditions: sizes.
  Distances, shortest paths and their ends, by the program, on a valid system. Conditions: valid systems.
  The end of a path, its labels, and what its labels lead to, by the program, on a valid system. Conditions: valid systems, paths of at most 1000 edges.
  slices.Index at texts with its value; rows of arcs (from, label, to). Conditions: sizes.
  impl.lts: a system from texts and arcs. Conditions: sizes.
  slices.Clone, slices.Grow and slices.Concat at []string. Conditions: sizes.
  impl.union: two systems side by side. Conditions: sizes.
  Maps from numbers to numbers, lists of the first numbers, and the normal form of a list, by the program. Conditions: sizes.
-/
import Derived.Test.YtnhomkmfbngmgaaGreatDoorBaseA
import Derived.Test.YtnhomkmfbngmgaaGreatDoorBaseB
import Derived.Test.YtnhomkmfbngmgaaGreatDoorBaseC
import Derived.Test.YtnhomkmfbngmgaaGreatDoorBaseD
import Derived.Test.YtnhomkmfbngmgaaGreatDoorBaseE
import Derived.Test.YtnhomkmfbngmgaaGreatDoorBaseF
import Derived.Test.YtnhomkmfbngmgaaGreatDoorBaseG
import Derived.Outline
import Derived.WalkSpells
import Derived.Laws.CopyOwn
import Derived.Laws.Bits64b
import Derived.StillTailTactics
import Derived.Deep.RegionLaw
import Derived.Deep.LoopGhost
import Derived.ArgAppend
import Derived.StillTail
import Derived.OrdersHeld
import Derived.Deep.RegionHeld3
import Derived.Lib.AppendZeros
import Derived.Maps.OwnSet
import Derived.Maps.Views
import Derived.Carry
set_option linter.unusedSimpArgs false
set_option linter.unusedVariables false
namespace Go.Proofs.YtnhomkmfbngmgaaGreatDoor
set_option linter.unusedVariables false

section
variable (src : Nat → Prop) (arc : Nat → Nat → Prop)
/-- Reached by at most n arcs. -/
def lay : Nat → Nat → Prop
  | 0, k => src k
  | n + 1, k => lay n k ∨ ∃ a, lay n a ∧ arc a k
theorem lay_mono {n m k : Nat} (h : lay src arc n k) (hm : n ≤ m) : lay src arc m k := by
  induction m with
  | zero =>
    have : n = 0 := by omega
    subst this; exact h
  | succ m ih =>
    rcases Nat.lt_or_ge m n with h1 | h1
    · have : n = m + 1 := by omega
      subst this; exact h
    · exact .inl (ih h1)
/-- The least number of arcs is d. -/
def least (d k : Nat) : Prop := lay src arc d k ∧ ∀ m, m < d → ¬ lay src arc m k
theorem least_uniq {d e k : Nat} (h : least src arc d k) (g : least src arc e k) : d = e := by
  rcases Nat.lt_trichotomy d e with h1 | h1 | h1
  · exact absurd h.1 (g.2 d h1)
  · exact h1
  · exact absurd g.1 (h.2 e h1)
theorem least_of {n k : Nat} (h : lay src arc n k) : ∃ d, d ≤ n ∧ least src arc d k := by
  induction n with
  | zero => exact ⟨0, Nat.le_refl _, h, fun m hm => absurd hm (by omega)⟩
  | succ n ih =>
    by_cases h1 : lay src arc n k
    · obtain ⟨d, h2, h3⟩ := ih h1
      exact ⟨d, by omega, h3⟩
    · refine ⟨n + 1, Nat.le_refl _, h, fun m hm hl => h1 (lay_mono src arc hl (by omega))⟩
theorem least_pred {n k : Nat} (h : least src arc (n + 1) k) : ∃ a, least src arc n a ∧ arc a k := by
  obtain ⟨h1, h2⟩ := h
  rcases h1 with h1 | ⟨a, ha, hk⟩
  · exact absurd h1 (h2 n (by omega))
  · refine ⟨a, ⟨ha, fun m hm hl => ?_⟩, hk⟩
    exact h2 (m + 1) (by omega) (.inr ⟨a, hl, hk⟩)

/-- The numbers that a list of distances tells: the least number of arcs, or a negative one. -/
def DistIs (n : Nat) (out : List Int) : Prop := out.length = n ∧ ∀ (k : Nat) (x : Int), out[k]? = some x → (0 ≤ x → least src arc x.toNat k) ∧ (x < 0 → x = -1 ∧ ∀ m, ¬ lay src arc m k)
theorem DistIs.uniq {n : Nat} {a b : List Int} (h : DistIs src arc n a) (g : DistIs src arc n b) : a = b := by
  apply List.ext_getElem?
  intro k
  by_cases hk : k < n
  · have ha : a[k]? = some (a[k]'(by rw [h.1]; exact hk)) := List.getElem?_eq_getElem _
    have hb : b[k]? = some (b[k]'(by rw [g.1]; exact hk)) := List.getElem?_eq_getElem _
    rw [ha, hb]
    generalize (a[k]'(by rw [h.1]; exact hk)) = x at *
    generalize (b[k]'(by rw [g.1]; exact hk)) = y at *
    obtain ⟨h1, h2⟩ := h.2 k x ha
    obtain ⟨g1, g2⟩ := g.2 k y hb
    by_cases hx : 0 ≤ x
    · by_cases hy : 0 ≤ y
      · have := least_uniq src arc (h1 hx) (g1 hy)
        congr 1
        omega
      · exact absurd (h1 hx).1 ((g2 (by omega)).2 _)
    · by_cases hy : 0 ≤ y
      · exact absurd (g1 hy).1 ((h2 (by omega)).2 _)
      · rw [(h2 (by omega)).1, (g2 (by omega)).1]
  · rw [List.getElem?_eq_none (by rw [h.1]; omega), List.getElem?_eq_none (by rw [g.1]; omega)]

/-! ## By rounds -/
/-- What is told behind n rounds. -/
def RoundIs (N n : Nat) (out : List Int) : Prop := out.length = N ∧ ∀ (k : Nat) (x : Int), out[k]? = some x → (0 ≤ x → least src arc x.toNat k ∧ x ≤ n) ∧ (x < 0 → x = -1 ∧ ¬ lay src arc n k)
theorem RoundIs.start {N : Nat} {out : List Int} (hl : out.length = N) (h : ∀ (k : Nat) (x : Int), out[k]? = some x → (x = 0 ∧ src k) ∨ (x = -1 ∧ ¬ src k)) : RoundIs src arc N 0 out := by
  refine ⟨hl, fun k x hx => ?_⟩
  rcases h k x hx with ⟨rfl, hs⟩ | ⟨rfl, hs⟩
  · exact ⟨fun _ => ⟨⟨hs, fun m hm => absurd hm (by omega)⟩, by omega⟩, fun h => absurd h (by omega)⟩
  · exact ⟨fun h => absurd h (by omega), fun _ => ⟨rfl, hs⟩⟩
theorem RoundIs.done {N n : Nat} {out : List Int} (h : RoundIs src arc N n out) (hin : ∀ a k, arc a k → a < N ∧ k < N) (hsrc : ∀ k, src k → k < N)
    (hstop : ∀ (a k : Nat) (x y : Int), arc a k → out[a]? = some x → out[k]? = some y → 0 ≤ x → 0 ≤ y) : DistIs src arc N out := by
  refine ⟨h.1, fun k x hx => ⟨fun h0 => ((h.2 k x hx).1 h0).1, fun h0 => ⟨((h.2 k x hx).2 h0).1, ?_⟩⟩⟩
  have key : ∀ (m k : Nat), lay src arc m k → k < N ∧ ∀ x, out[k]? = some x → 0 ≤ x := by
    intro m
    induction m with
    | zero =>
      intro k hk
      refine ⟨hsrc k hk, fun x hx => ?_⟩
      rcases Int.lt_or_le x 0 with h1 | h1
      · exact absurd (lay_mono src arc (n := 0) (m := n) hk (Nat.zero_le _)) ((h.2 k x hx).2 h1).2
      · exact h1
    | succ m ih =>
      intro k hk
      rcases hk with hk | ⟨a, ha, hak⟩
      · exact ih k hk
      · obtain ⟨h1, h2⟩ := ih a ha
        refine ⟨(hin a k hak).2, fun x hx => ?_⟩
        have hax : out[a]? = some (out[a]'(by rw [h.1]; exact h1)) := List.getElem?_eq_getElem _
        exact hstop a k _ x hak hax hx (h2 _ hax)
  intro m hm
  have := (key m k hm).2 x hx
  omega
/-! ## By a queue -/
/-- The queue's invariant: out tells the least numbers of what was found; what was found and is not in the queue has all its arcs' ends found. -/
structure QueIs (N : Nat) (out : List Int) (todo : List Nat) : Prop where
  len : out.length = N
  exact_ : ∀ (k : Nat) (x : Int), out[k]? = some x → (0 ≤ x → least src arc x.toNat k) ∧ (x < 0 → x = -1)
  src_ : ∀ k, src k → ∃ x : Int, out[k]? = some x ∧ 0 ≤ x
  todo_ : ∀ k, k ∈ todo → ∃ x : Int, out[k]? = some x ∧ 0 ≤ x
  done_ : ∀ (a k : Nat) (x : Int), out[a]? = some x → 0 ≤ x → a ∉ todo → arc a k → ∃ y : Int, out[k]? = some y ∧ 0 ≤ y
  sorted : todo.Pairwise fun a b => ∀ (x y : Int), out[a]? = some x → out[b]? = some y → x ≤ y
  near : ∀ a, todo.head? = some a → ∀ b, b ∈ todo → ∀ (x y : Int), out[a]? = some x → out[b]? = some y → y ≤ x + 1
theorem QueIs.done {N : Nat} {out : List Int} (h : QueIs src arc N out []) (hin : ∀ a k, arc a k → a < N ∧ k < N) (hsrc : ∀ k, src k → k < N) : DistIs src arc N out := by
  refine ⟨h.len, fun k x hx => ⟨(h.exact_ k x hx).1, fun h0 => ⟨(h.exact_ k x hx).2 h0, ?_⟩⟩⟩
  have key : ∀ m k, lay src arc m k → ∃ y : Int, out[k]? = some y ∧ 0 ≤ y := by
    intro m
    induction m with
    | zero => exact fun k hk => h.src_ k hk
    | succ m ih =>
      intro k hk
      rcases hk with hk | ⟨a, ha, hak⟩
      · exact ih k hk
      · obtain ⟨y, hy, hy0⟩ := ih a ha
        exact h.done_ a k y hy hy0 (by simp) hak
  intro m hm
  obtain ⟨y, hy, hy0⟩ := key m k hm
  rw [hx] at hy
  cases hy
  omega
theorem QueIs.found {N : Nat} {out : List Int} {k : Nat} {todo : List Nat} (h : QueIs src arc N out (k :: todo)) {m : Int} (hm : out[k]? = some m) : ∀ (d b : Nat), (d : Int) ≤ m → least src arc d b → ∃ y : Int, out[b]? = some y ∧ 0 ≤ y := by
  intro d
  induction d with
  | zero => exact fun b _ hb => h.src_ b hb.1
  | succ d ih =>
    intro b hd hb
    obtain ⟨a, ha, hab⟩ := least_pred src arc hb
    obtain ⟨y, hy, hy0⟩ := ih a (by omega) ha
    have hyd : y.toNat = d := least_uniq src arc ((h.exact_ a y hy).1 hy0) ha
    refine h.done_ a b y hy hy0 ?_ hab
    intro hin
    rcases List.mem_cons.1 hin with rfl | hin
    · rw [hm] at hy
      cases hy
      omega
    · have := (List.pairwise_cons.1 h.sorted).1 a hin m y hm hy
      omega
theorem QueIs.add {N : Nat} {out : List Int} {k b : Nat} {todo : List Nat} (h : QueIs src arc N out (k :: todo)) {m x : Int} (hm : out[k]? = some m) (hb : out[b]? = some x) (hx : x < 0) (hkb : arc k b) :
    QueIs src arc N (out.set b (m + 1)) (k :: (todo ++ [b])) := by
  have hm0 : 0 ≤ m := by
    obtain ⟨y, hy, hy0⟩ := h.todo_ k (by simp)
    rw [hm] at hy
    cases hy
    exact hy0
  have hbl : b < out.length := (List.getElem?_eq_some_iff.1 hb).1
  have hne : ∀ {j : Nat} {y : Int}, out[j]? = some y → 0 ≤ y → j ≠ b := by
    rintro j y hy hy0 rfl
    rw [hb] at hy
    cases hy
    omega
  have hkeep : ∀ {j : Nat} {y : Int}, out[j]? = some y → 0 ≤ y → (out.set b (m + 1))[j]? = some y := fun hy hy0 => by
    rw [List.getElem?_set_ne (fun e => hne hy hy0 e.symm)]
    exact hy
  have hself : (out.set b (m + 1))[b]? = some (m + 1) := List.getElem?_set_self hbl
  have hlay : least src arc (m + 1).toNat b := by
    have hk := (h.exact_ k m hm).1 hm0
    rw [show (m + 1).toNat = m.toNat + 1 by omega]
    refine ⟨.inr ⟨k, hk.1, hkb⟩, fun j hj hl => ?_⟩
    obtain ⟨d, hd, hld⟩ := least_of src arc hl
    obtain ⟨y, hy, hy0⟩ := h.found src arc hm d b (by omega) hld
    rw [hb] at hy
    cases hy
    omega
  have hold : ∀ {j : Nat} {y : Int}, j ∈ k :: todo → (out.set b (m + 1))[j]? = some y → out[j]? = some y := fun hj hy => by
    obtain ⟨z, hz, hz0⟩ := h.todo_ _ hj
    rw [hkeep hz hz0] at hy
    rw [hz, hy]
  have hmb : ∀ j ∈ k :: todo, ∀ y, out[j]? = some y → y ≤ m + 1 := fun j hj y hy => h.near k rfl j hj m y hm hy
  refine ⟨by rw [List.length_set]; exact h.len, fun j y hy => ?_, fun j hj => ?_, fun j hj => ?_, fun a j y hy hy0 ha haj => ?_, ?_, ?_⟩
  · by_cases e : j = b
    · subst e
      rw [hself] at hy
      cases hy
      exact ⟨fun _ => hlay, fun h0 => absurd h0 (by omega)⟩
    · rw [List.getElem?_set_ne (fun e' => e e'.symm)] at hy
      exact h.exact_ j y hy
  · obtain ⟨y, hy, hy0⟩ := h.src_ j hj
    exact ⟨y, hkeep hy hy0, hy0⟩
  · rw [← List.cons_append, List.mem_append] at hj
    rcases hj with hj | hj
    · obtain ⟨y, hy, hy0⟩ := h.todo_ j hj
      exact ⟨y, hkeep hy hy0, hy0⟩
    · rw [List.mem_singleton.1 hj]
      exact ⟨_, hself, by omega⟩
  · have hab : a ≠ b := by
      rintro rfl
      exact ha (by simp)
    rw [List.getElem?_set_ne (fun e => hab e.symm)] at hy
    obtain ⟨z, hz, hz0⟩ := h.done_ a j y hy hy0 (fun hin => ha (by rw [← List.cons_append, List.mem_append]; exact .inl hin)) haj
    exact ⟨z, hkeep hz hz0, hz0⟩
  · rw [← List.cons_append, List.pairwise_append]
    refine ⟨?_, by simp, fun a ha c hc y z hy hz => ?_⟩
    · refine List.Pairwise.imp_of_mem ?_ h.sorted
      intro a c ha hc hq y z hy hz
      exact hq y z (hold ha hy) (hold hc hz)
    · rw [List.mem_singleton.1 hc, hself] at hz
      cases hz
      exact hmb a ha y (hold ha hy)
  · intro a ha c hc y z hy hz
    cases ha
    have hym := hold (by simp) hy
    rw [hm] at hym
    cases hym
    rw [← List.cons_append, List.mem_append] at hc
    rcases hc with hc | hc
    · exact hmb c hc z (hold hc hz)
    · rw [List.mem_singleton.1 hc, hself] at hz
      cases hz
      omega
theorem QueIs.start {N : Nat} {out : List Int} {todo : List Nat} (hl : out.length = N) (h : ∀ (k : Nat) (x : Int), out[k]? = some x → (x = 0 ∧ src k) ∨ (x = -1 ∧ ¬ src k)) (hs : ∀ k, src k ↔ k ∈ todo) (hN : ∀ k, src k → k < N) : QueIs src arc N out todo := by
  have hz : ∀ k, src k → out[k]? = some 0 := fun k hk => by
    have ho : out[k]? = some (out[k]'(by rw [hl]; exact hN k hk)) := List.getElem?_eq_getElem _
    rcases h k _ ho with ⟨h1, _⟩ | ⟨_, h1⟩
    · rw [ho, h1]
    · exact absurd hk h1
  have hzt : ∀ k x, k ∈ todo → out[k]? = some x → x = 0 := fun k x hk hx => by
    rw [hz k ((hs k).2 hk)] at hx
    exact (Option.some.inj hx).symm
  refine ⟨hl, fun k x hx => ?_, fun k hk => ⟨0, hz k hk, by omega⟩, fun k hk => ⟨0, hz k ((hs k).2 hk), by omega⟩, fun a k x hx hx0 ha _ => ?_, ?_, fun a ha b hb x y hx hy => ?_⟩
  · rcases h k x hx with ⟨rfl, h1⟩ | ⟨rfl, h1⟩
    · exact ⟨fun _ => ⟨h1, fun m hm => absurd hm (by simp)⟩, fun h0 => absurd h0 (by omega)⟩
    · exact ⟨fun h0 => absurd h0 (by omega), fun _ => rfl⟩
  · rcases h a x hx with ⟨rfl, h1⟩ | ⟨rfl, h1⟩
    · exact absurd ((hs a).1 h1) ha
    · omega
  · rw [List.pairwise_iff_forall_sublist]
    intro a b hab x y hx hy
    have ha := hab.subset (List.mem_cons_self)
    have hb := hab.subset (List.mem_cons_of_mem a (List.mem_cons_self))
    rw [hzt a x ha hx, hzt b y hb hy]
    omega
  · rw [hzt a x (List.mem_of_mem_head? ha) hx, hzt b y hb hy]
    omega
end

end Go.Proofs.YtnhomkmfbngmgaaGreatDoor

namespace Go.Proofs.YtnhomkmfbngmgaaGreatDoor
set_option linter.unusedVariables false

/-- An arc along an edge, forward or backward. -/
def arcE (fw : Bool) (es : List Ed) (a k : Nat) : Prop := ∃ e : Ed, e ∈ es ∧ (if fw = true then e.1 = (a : Int) ∧ e.2.2 = (k : Int) else e.2.2 = (a : Int) ∧ e.1 = (k : Int))
def srcE (l : List Int) (k : Nat) : Prop := (k : Int) ∈ l
section
variable {N n : Nat} {es : List Ed} {out next : List Int} {i : Nat} {e : Ed}
end

/-! ## More on rounds -/
def negs : List Int → Nat
  | [] => 0
  | x :: l => (if x < 0 then 1 else 0) + negs l
theorem negs_set : ∀ {l : List Int} {k : Nat} {z v : Int}, l[k]? = some z → z < 0 → 0 ≤ v → negs (l.set k v) + 1 = negs l
  | [], k, z, v, h, _, _ => by simp at h
  | x :: l, 0, z, v, h, hz, hv => by
    simp at h
    subst h
    simp only [List.set_cons_zero, negs]
    rw [if_neg (by omega), if_pos hz]
    omega
  | x :: l, k + 1, z, v, h, hz, hv => by
    have := negs_set (l := l) (k := k) (v := v) (by simpa using h) hz hv
    simp only [List.set_cons_succ, negs]
    omega
section
variable {es : List Ed} {vs : List Int} {N rd i : Nat} {out nx : List Int}
end
end Go.Proofs.YtnhomkmfbngmgaaGreatDoor

namespace Go.Proofs.YtnhomkmfbngmgaaGreatDoor
open Go.ChangeShapes Go.WideShapes Go.ChangeAt Go.RowKit
set_option linter.unusedVariables false
set_option linter.unusedSimpArgs false

/-- A set of vertices as a list of answers. -/
def inS (s : List Bool) (v : Nat) : Bool := s[v]?.getD false
theorem inS_get {s : List Bool} {v : Nat} (h : v < s.length) : s[v]? = some (inS s v) := by unfold inS; rw [List.getElem?_eq_getElem h]; rfl
/-- The set of those below n that are as asked. -/
def setOf (n : Nat) (p : Nat → Bool) : List Bool := (List.range n).map p
theorem setOf_len (n : Nat) (p : Nat → Bool) : (setOf n p).length = n := by simp [setOf]
theorem setOf_get {n : Nat} {p : Nat → Bool} {v : Nat} (h : v < n) : (setOf n p)[v]? = some (p v) := by simp [setOf, h]
/-- A bool. -/
def bv (b : Bool) : List Value := [.bool b]
abbrev SlB := Sl 1 bv
theorem elem_int64 : Elem Tryz.prog 32 2 1 8 := Elem.of Tryz.underlying32 info_int64 rfl (by omega) (by omega)

section
variable {w w' : World} {lo hi n : Nat} {A : Option Addr}
theorem SlB.get {l : List Bool} (h : SlB w lo hi A n l) {k : Nat} (hk : k < n) :
    ∃ b off, A = some ⟨b, off, none⟩ ∧ lo ≤ b ∧ b < hi ∧ b < w.heap.size ∧ l[k]? = some (inS l k) ∧ w.cell? ⟨b, off + k, none⟩ = some (.bool (inS l k)) ∧ w.frozen? ⟨b, off + k, none⟩ = false := by
  obtain ⟨b, off, e, g1, g2, g3, hc⟩ := h.at_ (by omega)
  have hl : k < l.length := by rw [h.len]; exact hk
  have h0 := hc k (inS l k) (inS_get hl) 0 _ rfl
  simp only [Nat.mul_one, Nat.add_zero] at h0
  exact ⟨b, off, e, g1, g2, g3, inS_get hl, h0.1, h0.2⟩
theorem SlB.put {b off : Nat} {l : List Bool} (h : SlB w lo hi (some ⟨b, off, none⟩) n l) {k : Nat} (hk : k < n) (x : Bool) : SlB (w.setCell ⟨b, off + k, none⟩ (.bool x)) lo hi (some ⟨b, off, none⟩) n (l.set k x) := by
  have := h.putN hk (fun _ => rfl) x
  simpa [putCells, bv] using this
theorem SlI.put' {b off : Nat} {l : List Int} (h : SlI w lo hi (some ⟨b, off, none⟩) n l) {k : Nat} (hk : k < n) (x : Int) : SlI (w.setCell ⟨b, off + k, none⟩ (.int .i64 x)) lo hi (some ⟨b, off, none⟩) n (l.set k x) := h.put hk x
end

/-- Made by make([]bool, n). -/
theorem SlB.made (w : World) (n : Nat) : SlB (w.alloc (.cells (madeCells #[.bool false] n) 4)) w.heap.size (w.heap.size + 1) (some ⟨w.heap.size, 0, none⟩) n (setOf n fun _ => false) := by
  refine ⟨setOf_len _ _, fun hn => ⟨w.heap.size, 0, rfl, Nat.le_refl _, by omega, by simp, fun k x hx j u hu => ?_⟩⟩
  have hk : k < n := by
    have := (List.getElem?_eq_some_iff.1 hx).1
    rwa [setOf_len] at this
  rw [setOf_get hk] at hx
  cases hx
  have hj : j = 0 := by
    have := (List.getElem?_eq_some_iff.1 hu).1
    simp [bv] at this
    exact this
  subst hj
  simp [bv] at hu
  subst hu
  have hg := heap_alloc_new w (.cells (madeCells #[.bool false] n) 4)
  refine ⟨(cell_of_row _ _ _ _ _ (0, 0) hg).trans ?_, frozen_of_row _ _ _ _ _ hg⟩
  simp [madeCells, Value.cells, hk, Nat.mod_one]

/-- A list of which the first k places are filled. -/
def intK (n k : Nat) (p : Nat → Int) : List Int := (List.range n).map fun v => if v < k then p v else 0
theorem intK_len (n k : Nat) (p : Nat → Int) : (intK n k p).length = n := by simp [intK]
theorem SlI.made (w : World) (n : Nat) (p : Nat → Int) : SlI (w.alloc (.cells (madeCells #[.int .i64 0] n) 2)) w.heap.size (w.heap.size + 1) (some ⟨w.heap.size, 0, none⟩) n (intK n 0 p) := by
  refine ⟨intK_len _ _ _, fun hn => ⟨w.heap.size, 0, rfl, Nat.le_refl _, by omega, by simp, fun k x hx j u hu => ?_⟩⟩
  have hk : k < n := by
    have := (List.getElem?_eq_some_iff.1 hx).1
    rwa [intK_len] at this
  have hx0 : x = 0 := by
    simp only [intK, List.getElem?_map, List.getElem?_range hk, Option.map_some] at hx
    simp at hx
    exact hx.symm
  subst hx0
  have hj : j = 0 := by
    have := (List.getElem?_eq_some_iff.1 hu).1
    simp [iv] at this
    exact this
  subst hj
  simp [iv] at hu
  subst hu
  have hg := heap_alloc_new w (.cells (madeCells #[.int .i64 0] n) 2)
  refine ⟨(cell_of_row _ _ _ _ _ (0, 0) hg).trans ?_, frozen_of_row _ _ _ _ _ hg⟩
  simp [madeCells, hk, Nat.mod_one]

end Go.Proofs.YtnhomkmfbngmgaaGreatDoor

namespace Go.Proofs.YtnhomkmfbngmgaaGreatDoor
open Go.ChangeShapes Go.WideShapes Go.ChangeAt Go.RowKit
set_option linter.unusedVariables false

/-- The slice value `.slice A n c` is the call's own (a block from base on, at whatever offset), and holds l. -/
def OwnQ (w : World) (base : Nat) (A : Option Addr) (n c : Nat) (l : List Int) : Prop :=
  l.length = n ∧ ((A = none ∧ n = 0 ∧ c = 0) ∨ ∃ g off cur, A = some ⟨g, off, none⟩ ∧ base ≤ g ∧ w.heap[g]? = some (.cells cur 2 (0, 0)) ∧ n ≤ c ∧ c ≤ maxLen ∧ off + c ≤ cur.size ∧ ∀ (i : Nat) (x : Int), l[i]? = some x → cur[off + i]? = some (.int .i64 x))

section
variable {w w' : World} {base n c : Nat} {A : Option Addr} {l : List Int}
theorem OwnQ.len (h : OwnQ w base A n c l) : l.length = n := h.1
theorem OwnQ.of (h : Own 1 iv w base 2 A n c l) : OwnQ w base A n c l := by
  refine ⟨h.1, ?_⟩
  rcases h.2.2 with ⟨hv, h0⟩ | ⟨g, cap, cur, hv, hb, hg, hnc, hcm, hcs, htake⟩
  · injection hv with h1 _ h3
    exact .inl ⟨h1, h0, h3⟩
  · injection hv with h1 _ h3
    subst h1 h3
    refine .inr ⟨g, 0, cur, rfl, hb, hg, hnc, hcm, by omega, fun i x hx => ?_⟩
    have h1 := flat_at flat_iv l i x hx 0 _ rfl
    rw [← htake] at h1
    rw [List.getElem?_take] at h1
    split at h1
    · simpa using h1
    · cases h1
theorem OwnQ.keep (h : OwnQ w base A n c l) (hk : ∀ g, base ≤ g → (Value.slice A n c).ownBlock = some g → w'.heap[g]? = w.heap[g]?) : OwnQ w' base A n c l := by
  refine ⟨h.1, ?_⟩
  rcases h.2 with hn | ⟨g, off, cur, rfl, hb, hg, rest⟩
  · exact .inl hn
  · exact .inr ⟨g, off, cur, rfl, hb, (hk g hb rfl).trans hg, rest⟩
theorem OwnQ.lt (h : OwnQ w base A n c l) : ∀ g, (Value.slice A n c).ownBlock = some g → base ≤ g ∧ g < w.heap.size := by
  intro g hg
  rcases h.2 with ⟨rfl, _⟩ | ⟨g', off, cur, rfl, hb, hg', rest⟩
  · cases hg
  · cases hg
    exact ⟨hb, (Array.getElem?_eq_some_iff.1 hg').1⟩
theorem OwnQ.kept {row : Option Nat} (h : OwnQ w base A n c l) (hg : w.grownBy w' row) (hne : (Value.slice A n c).ownBlock = none ∨ (Value.slice A n c).ownBlock ≠ row) : OwnQ w' base A n c l :=
  h.keep fun g _ e => hg.block g (h.lt g e).2 (by
    rcases hne with hne | hne
    · rw [e] at hne; cases hne
    · rw [e] at hne; exact hne)
theorem OwnQ.alloc (h : OwnQ w base A n c l) (o : Obj) : OwnQ (w.alloc o) base A n c l := h.kept (World.grownBy_alloc w o none) (by cases (Value.slice A n c).ownBlock <;> simp)
theorem OwnQ.drewN (h : OwnQ w base A n c l) (k : Nat) : OwnQ (w.drewN k) base A n c l := h
/-- The first element. -/
theorem OwnQ.head {x : Int} {r : List Int} (h : OwnQ w base A n c (x :: r)) : ∃ g off, A = some ⟨g, off, none⟩ ∧ w.cell? ⟨g, off, none⟩ = some (.int .i64 x) ∧ 0 < n ∧ n ≤ c := by
  have hl := h.1
  simp at hl
  rcases h.2 with ⟨rfl, h0, _⟩ | ⟨g, off, cur, rfl, hb, hg, h1, h2, h3, h4⟩
  · omega
  · refine ⟨g, off, rfl, (cell_of_row w g off cur _ (0, 0) hg).trans ?_, by omega, h1⟩
    have := h4 0 x rfl
    simpa using this
/-- `q[1:]`. -/
theorem OwnQ.cut {x : Int} {r : List Int} (h : OwnQ w base A n c (x :: r)) : OwnQ w base (cutA A 1 c 1) (n - 1) (c - 1) r := by
  have hl := h.1
  simp at hl
  rcases h.2 with ⟨rfl, h0, _⟩ | ⟨g, off, cur, rfl, hb, hg, h1, h2, h3, h4⟩
  · omega
  · refine ⟨by omega, .inr ?_⟩
    by_cases hc : c = 1
    · subst hc
      refine ⟨g, off, cur, by simp [cutA], hb, hg, by omega, by unfold maxLen; omega, by omega, fun i y hy => ?_⟩
      have hr : r = [] := List.eq_nil_of_length_eq_zero (by omega)
      subst hr
      simp at hy
    · refine ⟨g, off + 1, cur, by unfold cutA; rw [if_neg hc, Option.map_some, addr_add], hb, hg, by omega, by omega, by omega, fun i y hy => ?_⟩
      have := h4 (i + 1) y (by simpa using hy)
      rw [show off + 1 + i = off + (i + 1) by omega]
      exact this
theorem OwnQ.cutBlock (A : Option Addr) (n c : Nat) : (Value.slice (cutA A 1 c 1) (n - 1) (c - 1)).ownBlock = (Value.slice A n c).ownBlock := by
  cases A with
  | none => simp [cutA, Value.ownBlock]
  | some a =>
    unfold cutA
    split
    · rfl
    · simp only [Option.map_some, Value.ownBlock, Addr.add]
      split <;> rfl
end

end Go.Proofs.YtnhomkmfbngmgaaGreatDoor

namespace Go.Proofs.YtnhomkmfbngmgaaGreatDoor
open Go.ChangeShapes Go.WideShapes Go.ChangeAt Go.RowKit Go.Sort
set_option linter.unusedVariables false
set_option linter.unusedSimpArgs false

/-- The two things that the search writes. -/
structure MemD (W : World) (bo oo n : Nat) (out : List Int) (qb : Nat) (A : Option Addr) (q c : Nat) (todo : List Int) : Prop where
  out : SlI W bo (bo + 1) (some ⟨bo, oo, none⟩) n out
  que : OwnQ W qb A q c todo
  o1 : bo < qb
  o2 : qb ≤ W.heap.size
section
variable {W W' : World} {bo oo n qb q c : Nat} {out : List Int} {A : Option Addr} {todo : List Int}
theorem MemD.put (h : MemD W bo oo n out qb A q c todo) {k : Nat} (hk : k < n) (x : Int) : MemD (W.setCell ⟨bo, oo + k, none⟩ (.int .i64 x)) bo oo n (out.set k x) qb A q c todo :=
  ⟨SlI.put' h.out hk x, h.que.keep fun g hg _ => Below.heap_setCell _ _ _ _ (by have := h.o1; show g ≠ bo; omega), h.o1, by rw [World.size_setCell]; exact h.o2⟩
theorem MemD.alloc (h : MemD W bo oo n out qb A q c todo) (o : Obj) : MemD (W.alloc o) bo oo n out qb A q c todo := by
  have h1 := h.o1
  have h2 := h.o2
  exact ⟨Sl.keep h.out (by simp) fun b _ _ hb => Below.heap_alloc _ _ _ hb, h.que.alloc o, h1, by simp; omega⟩
theorem MemD.drewN (h : MemD W bo oo n out qb A q c todo) (k : Nat) : MemD (W.drewN k) bo oo n out qb A q c todo := ⟨h.out.drewN k, h.que.drewN k, h.o1, h.o2⟩
theorem MemD.cut {x : Int} (h : MemD W bo oo n out qb A q c (x :: todo)) : MemD W bo oo n out qb (cutA A 1 c 1) (q - 1) (c - 1) todo := ⟨h.out, h.que.cut, h.o1, h.o2⟩
end

/-- The first k beginnings are marked. -/
def Marks (N : Nat) (l : List Int) (k : Nat) (out : List Int) : Prop := out.length = N ∧ ∀ (j : Nat) (x : Int), out[j]? = some x → (x = 0 ∧ (j : Int) ∈ l.take k) ∨ (x = -1 ∧ ¬ (j : Int) ∈ l.take k)
theorem Marks.zero (N : Nat) (l : List Int) : Marks N l 0 (List.replicate N (-1)) := by
  refine ⟨by simp, fun j x hx => .inr ⟨?_, by simp⟩⟩
  exact List.eq_of_mem_replicate (List.mem_of_getElem? hx)
theorem Marks.step {N : Nat} {l : List Int} {k v : Nat} {out : List Int} (h : Marks N l k out) (hx : l[k]? = some (v : Int)) : Marks N l (k + 1) (out.set v 0) := by
  refine ⟨by rw [List.length_set]; exact h.1, fun j x hj => ?_⟩
  have hmem : ∀ i : Nat, (i : Int) ∈ l.take (k + 1) ↔ (i : Int) ∈ l.take k ∨ i = v := fun i => by
    rw [List.take_add_one, hx, List.mem_append]
    constructor
    · rintro (h1 | h1)
      · exact .inl h1
      · simp at h1
        exact .inr (by omega)
    · rintro (h1 | h1)
      · exact .inl h1
      · subst h1
        exact .inr (by simp)
  by_cases e : v = j
  · subst e
    have hl : v < out.length := by
      have := (List.getElem?_eq_some_iff.1 hj).1
      rwa [List.length_set] at this
    rw [List.getElem?_set_self hl] at hj
    exact .inl ⟨(Option.some.inj hj).symm, (hmem v).2 (.inr rfl)⟩
  · rw [List.getElem?_set_ne e] at hj
    rcases h.2 j x hj with ⟨h1, h2⟩ | ⟨h1, h2⟩
    · exact .inl ⟨h1, (hmem j).2 (.inl h2)⟩
    · exact .inr ⟨h1, fun hc => by
        rcases (hmem j).1 hc with h3 | h3
        · exact h2 h3
        · exact e h3.symm⟩
theorem Marks.all {N n : Nat} {l : List Int} {out : List Int} (h : Marks N l n out) (hl : l.length ≤ n) : ∀ (j : Nat) (x : Int), out[j]? = some x → (x = 0 ∧ srcE l j) ∨ (x = -1 ∧ ¬ srcE l j) := fun j x hx => by
  have := h.2 j x hx
  rwa [List.take_of_length_le hl] at this

/-- The edges looked at lead from k to what was found. -/
def FoundE (fw : Bool) (es : List Ed) (i : Nat) (k : Nat) (out : List Int) : Prop := ∀ b, arcE fw (es.take i) k b → ∃ y : Int, out[b]? = some y ∧ 0 ≤ y
theorem arc_take_succ {fw : Bool} {es : List Ed} {i : Nat} {e : Ed} (hx : es[i]? = some e) {a b : Nat} (h : arcE fw (es.take (i + 1)) a b) : arcE fw (es.take i) a b ∨ (if fw = true then e.1 = (a : Int) ∧ e.2.2 = (b : Int) else e.2.2 = (a : Int) ∧ e.1 = (b : Int)) := by
  obtain ⟨e', hm, h⟩ := h
  rw [List.take_add_one, hx, List.mem_append] at hm
  rcases hm with hm | hm
  · exact .inl ⟨e', hm, h⟩
  · simp at hm
    subst hm
    exact .inr h
theorem FoundE.zero (fw : Bool) (es : List Ed) (k : Nat) (out : List Int) : FoundE fw es 0 k out := by
  rintro b ⟨e, hm, _⟩
  simp at hm
theorem FoundE.skip {fw : Bool} {es : List Ed} {i k : Nat} {out : List Int} {e : Ed} (h : FoundE fw es i k out) (hx : es[i]? = some e)
    (hs : ∀ b : Nat, (if fw = true then e.1 = (k : Int) ∧ e.2.2 = (b : Int) else e.2.2 = (k : Int) ∧ e.1 = (b : Int)) → ∃ y : Int, out[b]? = some y ∧ 0 ≤ y) : FoundE fw es (i + 1) k out := fun b hb => by
  rcases arc_take_succ hx hb with h1 | h1
  · exact h b h1
  · exact hs b h1
theorem FoundE.set {fw : Bool} {es : List Ed} {i k : Nat} {out : List Int} (h : FoundE fw es i k out) (v : Nat) {x : Int} (hx : 0 ≤ x) (hv : v < out.length) : FoundE fw es i k (out.set v x) := fun b hb => by
  obtain ⟨y, hy, hy0⟩ := h b hb
  by_cases e : v = b
  · subst e
    exact ⟨x, List.getElem?_set_self hv, hx⟩
  · exact ⟨y, by rw [List.getElem?_set_ne e]; exact hy, hy0⟩
/-- What is told is not more than how many are told. -/
def BoundD (N : Nat) (out : List Int) : Prop := ∀ (j : Nat) (x : Int), out[j]? = some x → x + (negs out : Int) ≤ (N : Int)
theorem BoundD.set {N v : Nat} {out : List Int} (h : BoundD N out) {k : Nat} {m z : Int} (hk : out[k]? = some m) (hz : out[v]? = some z) (hz0 : z < 0) (hm : 0 ≤ m) : BoundD N (out.set v (m + 1)) := fun j x hj => by
  have hn := negs_set (v := m + 1) hz hz0 (by omega)
  have h1 := h k m hk
  by_cases e : v = j
  · subst e
    rw [List.getElem?_set_self (List.getElem?_eq_some_iff.1 hz).1] at hj
    have := Option.some.inj hj
    omega
  · rw [List.getElem?_set_ne e] at hj
    have := h j x hj
    omega
end Go.Proofs.YtnhomkmfbngmgaaGreatDoor

namespace Go.Proofs.YtnhomkmfbngmgaaGreatDoor
set_option linter.unusedVariables false

/-- The edges with these numbers lead from x to y. -/
def WayE (es : List Ed) : Nat → List Int → Nat → Prop
  | x, [], y => x = y
  | x, i :: l, y => ∃ (e : Ed) (z : Nat), 0 ≤ i ∧ es[i.toNat]? = some e ∧ e.1 = (x : Int) ∧ e.2.2 = (z : Int) ∧ WayE es z l y
theorem WayE.range {es : List Ed} {x y : Nat} {l : List Int} (h : WayE es x l y) : ∀ i, i ∈ l → 0 ≤ i ∧ i < (es.length : Int) := by
  induction l generalizing x with
  | nil => exact fun i hi => absurd hi List.not_mem_nil
  | cons j l ih =>
    obtain ⟨e', z', g0, g1, g2, g3, g4⟩ := h
    intro i hi
    rcases List.mem_cons.1 hi with rfl | hi
    · have := (List.getElem?_eq_some_iff.1 g1).1
      omega
    · exact ih g4 i hi
theorem drop_cons {α : Type} {l : List α} {k : Nat} {x : α} (h : l[k]? = some x) : l.drop k = x :: l.drop (k + 1) := by
  obtain ⟨h1, h2⟩ := List.getElem?_eq_some_iff.1 h
  rw [List.drop_eq_getElem_cons h1, h2]
theorem WayE.step {es : List Ed} {x y k : Nat} {l : List Int} {i : Int} (h : WayE es x (l.drop k) y) (hi : l[k]? = some i) : ∃ (e : Ed) (z : Nat), 0 ≤ i ∧ es[i.toNat]? = some e ∧ e.1 = (x : Int) ∧ e.2.2 = (z : Int) ∧ WayE es z (l.drop (k + 1)) y := by
  rw [drop_cons hi] at h
  exact h
theorem WayE.done {es : List Ed} {x y k : Nat} {l : List Int} (h : WayE es x (l.drop k) y) (hk : l.length ≤ k) : x = y := by
  rw [List.drop_eq_nil_of_le hk] at h
  exact h
end Go.Proofs.YtnhomkmfbngmgaaGreatDoor

namespace Go.Proofs.YtnhomkmfbngmgaaGreatDoor
open Go.ChangeShapes Go.WideShapes Go.ChangeAt Go.RowKit
set_option linter.unusedVariables false
set_option linter.unusedSimpArgs false

abbrev HI := Option Addr × Nat
def hiV (N : Nat) (x : HI) : List Value := [.slice x.1 N x.2]
theorem flat_hiV (N : Nat) : Flat (hiV N) 1 := ⟨fun _ => rfl, fun x u h => by simp [hiV] at h; subst h; rfl⟩
/-- Rows of N numbers; the row of their handles is the call's own. -/
structure GrowI (w : World) (base N : Nat) (A : Option Addr) (n c : Nat) (R : List (HI × List Int)) : Prop where
  own : Own 1 (hiV N) w base 32 A n c (R.map (·.1))
  rows : ∀ r ∈ R, SlI w base w.heap.size r.1.1 N r.2
  off : ∀ r ∈ R, 0 < N → ∀ b off, r.1.1 = some ⟨b, off, none⟩ → (Value.slice A n c).ownBlock ≠ some b
section
variable {w w4 w5 w' : World} {base N n c : Nat} {A : Option Addr} {R : List (HI × List Int)}
theorem GrowI.len (h : GrowI w base N A n c R) : R.length = n := by have := h.own.len; rwa [List.length_map] at this
theorem GrowI.nil_ (w : World) (base N : Nat) : GrowI w base N none 0 0 [] := ⟨Own.nil_ _ _ _, fun _ h => (List.not_mem_nil h).elim, fun _ h => (List.not_mem_nil h).elim⟩
/-- The blocks from base on stay. -/
theorem GrowI.keep (h : GrowI w base N A n c R) (hs : w.heap.size ≤ w'.heap.size) (hk : ∀ b, base ≤ b → b < w.heap.size → w'.heap[b]? = w.heap[b]?) : GrowI w' base N A n c R :=
  ⟨h.own.keep fun g hg => hk g (h.own.lt g hg).1 (h.own.lt g hg).2, fun r hr => ((h.rows r hr).keep hs fun b h1 _ h3 => hk b h1 h3).more (Nat.le_refl _) hs, h.off⟩
theorem GrowI.below (h : GrowI w base N A n c R) (hb : Below w.heap.size w w') : GrowI w' base N A n c R := h.keep hb.size fun b _ h2 => hb.block b h2
/-- A first row. -/
theorem GrowI.one {Ah : Option Addr} {ch : Nat} {s : List Int} (hs : SlI w base w.heap.size Ah N s) (hb : base ≤ w.heap.size) : GrowI (w.alloc (.cells #[.slice Ah N ch] 32)) base N (some ⟨w.heap.size, 0, none⟩) 1 1 [((Ah, ch), s)] := by
  have hbel : Below w.heap.size w (w.alloc (.cells #[.slice Ah N ch] 32)) := (Below.refl _ _).alloc (Nat.le_refl _) _
  refine ⟨⟨rfl, by simp [hiV], .inr ⟨w.heap.size, 1, #[.slice Ah N ch], rfl, hb, heap_alloc_new w _, Nat.le_refl _, by decide, rfl, rfl⟩⟩, fun r hr => ?_, fun r hr hN b off e => ?_⟩
  · obtain rfl := List.mem_singleton.1 hr
    exact (hs.below hbel (.inr (Nat.le_refl _))).more (Nat.le_refl _) hbel.size
  · obtain rfl := List.mem_singleton.1 hr
    obtain ⟨b', off', e', -, -, g3, -⟩ := hs.at_ hN
    have e : Ah = _ := e
    rw [e] at e'
    cases e'
    intro e2
    have e2 : some w.heap.size = some b := e2
    injection e2 with e2
    omega
/-- A further row. -/
theorem GrowI.push (h : GrowI w4 base N A n c R) {Ah : Option Addr} {ch : Nat} {s : List Int} (hs : SlI w4 base w4.heap.size Ah N s) (ho : ∀ b off, 0 < N → Ah = some ⟨b, off, none⟩ → (Value.slice A n c).ownBlock ≠ some b)
    {A5 : Option Addr} {c5 : Nat} (hown : Own 1 (hiV N) w5 base 32 A5 (n + 1) c5 (R.map (·.1) ++ [(Ah, ch)])) (hgr : w4.grownBy w5 (Value.slice A n c).ownBlock)
    (hat : (Value.slice A5 (n + 1) c5).ownBlock = (Value.slice A n c).ownBlock ∨ (Value.slice A5 (n + 1) c5).ownBlock = some w4.heap.size) :
    GrowI w5 base N A5 (n + 1) c5 (R ++ [((Ah, ch), s)]) := by
  have hz5 := hgr.size
  have keepS : ∀ (B : Option Addr) (l : List Int), SlI w4 base w4.heap.size B N l → (∀ b off, 0 < N → B = some ⟨b, off, none⟩ → (Value.slice A n c).ownBlock ≠ some b) → SlI w5 base w5.heap.size B N l := by
    intro B l hl hne
    refine ⟨hl.1, fun hm => ?_⟩
    obtain ⟨b, off, rfl, g1, g2, g3, hc⟩ := hl.2 hm
    have hk := hgr.block b g3 (fun e => hne b off hm rfl e.symm)
    refine ⟨b, off, rfl, g1, by omega, by omega, fun k x hx j u hu => ?_⟩
    obtain ⟨h1, h2⟩ := hc k x hx j u hu
    exact ⟨(World.cell?_of_block (w := w4) (by simpa using hk)).trans h1, (World.frozen?_of_block (w := w4) (by simpa using hk)).trans h2⟩
  have hoff : ∀ (B : Option Addr) (l : List Int), SlI w4 base w4.heap.size B N l → (∀ b off, 0 < N → B = some ⟨b, off, none⟩ → (Value.slice A n c).ownBlock ≠ some b) → ∀ b off, 0 < N → B = some ⟨b, off, none⟩ → (Value.slice A5 (n + 1) c5).ownBlock ≠ some b := by
    intro B l hl hne b off hN e
    rcases hat with h1 | h1
    · rw [h1]; exact hne b off hN e
    · rw [h1]
      obtain ⟨b', off', e', -, -, g3, -⟩ := hl.at_ hN
      rw [e] at e'
      cases e'
      intro e2
      injection e2 with e2
      omega
  refine ⟨by rw [List.map_append]; exact hown, fun r hr => ?_, fun r hr hm b off e => ?_⟩
  · rcases List.mem_append.1 hr with hr | hr
    · exact keepS _ _ (h.rows r hr) fun b off hm e => h.off r hr hm b off e
    · obtain rfl := List.mem_singleton.1 hr
      exact keepS _ _ hs ho
  · rcases List.mem_append.1 hr with hr | hr
    · exact hoff _ _ (h.rows r hr) (fun b off hm e => h.off r hr hm b off e) b off hm e
    · obtain rfl := List.mem_singleton.1 hr
      exact hoff _ _ hs ho b off hm e
/-- Row k. -/
theorem GrowI.get (h : GrowI w base N A n c R) {k : Nat} (hk : k < n) : ∃ b off Ah ch s, A = some ⟨b, off, none⟩ ∧ base ≤ b ∧ b < w.heap.size ∧ R[k]? = some ((Ah, ch), s) ∧ w.cell? ⟨b, off + k, none⟩ = some (.slice Ah N ch) ∧ SlI w base w.heap.size Ah N s ∧
    ∀ b off, 0 < N → Ah = some ⟨b, off, none⟩ → (Value.slice A n c).ownBlock ≠ some b := by
  have hl := h.len
  obtain ⟨b, off, e, g1, g2, g3, hc⟩ := (h.own.sl (flat_hiV N)).at_ (by omega)
  have hr : R[k]? = some R[k] := List.getElem?_eq_getElem (by omega)
  have hm : R[k] ∈ R := List.getElem_mem _
  have h0 := (hc k R[k].1 (by rw [List.getElem?_map, hr]; rfl) 0 _ rfl).1
  rw [Nat.mul_one, Nat.add_zero] at h0
  exact ⟨b, off, R[k].1.1, R[k].1.2, R[k].2, e, g1, g3, hr, h0, h.rows _ hm, fun b off hN e => h.off _ hm hN b off e⟩
end

end Go.Proofs.YtnhomkmfbngmgaaGreatDoor

namespace Go.Proofs.YtnhomkmfbngmgaaGreatDoor
open Go.ChangeShapes Go.WideShapes Go.ChangeAt Go.RowKit
set_option linter.unusedVariables false
set_option linter.unusedSimpArgs false

/-- Four cells of a result. -/
def put4 (w : World) (g : Nat) (v0 v1 v2 v3 : Value) : World := (((w.setCell ⟨g, 0, none⟩ v0).setCell ⟨g, 1, none⟩ v1).setCell ⟨g, 2, none⟩ v2).setCell ⟨g, 3, none⟩ v3
theorem put4_other (w : World) (g : Nat) (v0 v1 v2 v3 : Value) {q : Nat} (h : q ≠ g) : (put4 w g v0 v1 v2 v3).heap[q]? = w.heap[q]? := by
  unfold put4
  rw [Below.heap_setCell _ _ _ _ h, Below.heap_setCell _ _ _ _ h, Below.heap_setCell _ _ _ _ h, Below.heap_setCell _ _ _ _ h]
theorem put4_size (w : World) (g : Nat) (v0 v1 v2 v3 : Value) : (put4 w g v0 v1 v2 v3).heap.size = w.heap.size := by unfold put4; simp
/-- A drawn system: at most K labels, M edges, Q choices. -/
def DrawnG (K M Q b N : Nat) (w : World) (e : Ending) (w' : World) : Prop := ∃ (st ini : Nat) (A : Option Addr) (n c : Nat) (B : Option Addr) (m d : Nat) (ts : List ByteArray) (es : List Ed),
  e = .returned (.agg #[.int .i64 (st : Int), .int .i64 (ini : Int), .slice A n c, .slice B m d]) ∧ SlS w' w.heap.size w'.heap.size A n (joiF ts) ∧ SlE w' w.heap.size w'.heap.size B m es ∧
  ltsV ((st : Int), (ini : Int), joiF ts, es) = true ∧ st ≤ 7 ∧ es.length ≤ M ∧ n ≤ K ∧ NamD ts ∧ SrcW w' b (N + Q) ∧ Only b (b + 1) w w'

/-- Kinds of states below nb; the first ones are their own. -/
def KindO (nb : Nat) (l : List Int) : Prop := (∀ j : Nat, j < nb → j < l.length → l[j]? = some (j : Int)) ∧ ∀ x, x ∈ l → 0 ≤ x ∧ x < (nb : Int)
theorem KindO.start (nb : Nat) : KindO nb [] := ⟨fun j _ h => absurd h (by simp), fun x h => absurd h List.not_mem_nil⟩
def EdD (st m : Nat) (es : List Ed) : Prop := ∀ e, e ∈ es → (0 ≤ e.1 ∧ e.1 < (st : Int)) ∧ (0 ≤ e.2.1 ∧ e.2.1 < (m : Int)) ∧ 0 ≤ e.2.2 ∧ e.2.2 < (st : Int)
theorem EdD.start (st m : Nat) : EdD st m [] := fun e h => absurd h List.not_mem_nil
end Go.Proofs.YtnhomkmfbngmgaaGreatDoor

namespace Go.Proofs.YtnhomkmfbngmgaaGreatDoor
open Go
set_option linter.unusedVariables false

section
variable {P : Program} {ops : Array Oper} {Q : Exit → Act → World → Prop} {md : Region.Mode} {S : World → Prop} {st : Nat}

/-- Any order from here on; S holds behind each operation but number st. -/
def lateT (P : Program) (md : Region.Mode) (ops : Array Oper) (Q : Exit → Act → World → Prop) (S : World → Prop) (st : Nat) : Nat → Array Bool → Act → World → Prop
  | 0, got, a, w => Region.ready md ops got = [] ∧ Q .normal a w
  | m + 1, got, a, w => (Region.ready md ops got = [] → Q .normal a w) ∧
    ∀ i ∈ Region.ready md ops got, wpOp P ops Q i (fun a' w' => (i ≠ st → S w') ∧ lateT P md ops Q S st m (got.setIfInBounds i true) a' w') a w
theorem lateT.any : ∀ (m : Nat) (got : Array Bool) (a : Act) (w : World), lateT P md ops Q S st m got a w → wpAny P md ops Q m got a w
  | 0, _, _, _, h => h
  | m + 1, got, _, _, h => ⟨h.1, fun i hi => wpOp_mono (fun a' w' k => lateT.any m _ a' w' k.2) (h.2 i hi)⟩

/-- Each of these waits for the one ahead of it. -/
def chainW (md : Region.Mode) (ops : Array Oper) : Nat → List Nat → Bool
  | _, [] => true
  | i, d :: ds => Region.waitsFor md ops d i && chainW md ops d ds
def openW (got : Array Bool) (ds : List Nat) : Bool := ds.all fun d => !got.getD d true
theorem openW_mem {got : Array Bool} {ds : List Nat} (h : openW got ds = true) {d : Nat} (hd : d ∈ ds) : got.getD d true = false := by
  unfold openW at h
  have := List.all_eq_true.1 h d hd
  simpa using this
theorem chainW_shut {got : Array Bool} : ∀ (ds : List Nat) (i : Nat), chainW md ops i ds = true → got.getD i true = false → openW got ds = true → ∀ d ∈ ds, d ∉ Region.ready md ops got
  | [], _, _, _, _, d, hd => by cases hd
  | e :: ds, i, h, hi, ho, d, hd => by
    unfold chainW at h
    rw [Bool.and_eq_true] at h
    have he : got.getD e true = false := openW_mem ho (by simp)
    rcases List.mem_cons.1 hd with rfl | hd
    · intro hr
      obtain ⟨oj, h1, x, hx, hb, hon⟩ := Region.waitsFor_spec h.1
      obtain ⟨-, o, h2, h3⟩ := mem_ready.1 hr
      rw [h1] at h2
      obtain rfl := Option.some.inj h2
      have := h3 x hx hb
      rw [hon, getD_both hi] at this
      cases this
    · exact chainW_shut ds e h.2 he (by unfold openW at ho ⊢; rw [List.all_cons, Bool.and_eq_true] at ho; exact ho.2) d hd

theorem lateT_first {i : Nat} {oi : Oper} {v : Value} {ds : List Nat} (hi : ops[i]? = some oi) (hsel : Region.noSelect ops = true) (hc : chainW md ops i ds = true) (hst : st ∈ ds)
    (hQ : ∀ c a w, Q (.panic c) (a.put oi.dst v) w → Q (.panic c) a w) : ∀ (m : Nat) (got : Array Bool) (a : Act) (w : World),
      (∀ j oj, ops[j]? = some oj → j ≠ i → got.getD j true = false → (∀ e ∈ oj.after, Region.binds md e = true → e.on ≠ i) → oi.apart ops oj = true) →
      i ∈ Region.ready md ops got → openW got ds = true → YieldsIf P ops S oi v a → S w →
      lateT P md ops Q S st m (got.setIfInBounds i true) (a.put oi.dst v) w → lateT P md ops Q S st (m + 1) got a w
  | 0, got, a, w, _, hr, _, hy, hS, H => by
    refine ⟨fun h => (by rw [h] at hr; cases hr), fun j hj => ?_⟩
    by_cases hji : j = i
    · subst hji; exact hy.wpOp hi hS ⟨fun _ => hS, H⟩
    · have := ready_mono hj hji
      rw [H.1] at this
      cases this
  | m + 1, got, a, w, hfree, hr, ho, hy, hS, H => by
    refine ⟨fun h => (by rw [h] at hr; cases hr), fun j hj => ?_⟩
    by_cases hji : j = i
    · subst hji; exact hy.wpOp hi hS ⟨fun _ => hS, H⟩
    · have h1 := H.2 j (ready_mono hj hji)
      obtain ⟨hjun, oj, hoj, hall⟩ := mem_ready.1 hj
      have hi0 := (mem_ready.1 hr).1
      have hjd : j ∉ ds := fun hm => chainW_shut ds i hc hi0 ho j hm hj
      have hjst : j ≠ st := fun e => hjd (e ▸ hst)
      have hnot : ∀ e ∈ oj.after, Region.binds md e = true → e.on ≠ i := fun e he hb heq => by
        have h2 := hall e he hb
        rw [heq, getD_both hi0] at h2
        cases h2
      have h2 := wpOp_putIf hoj (hfree j oj hoj hji hjun hnot) (fun cs b => Region.noSelect_spec hsel i oi cs b hi) (fun cs b => Region.noSelect_spec hsel j oj cs b hoj) hQ hy h1
      refine wpOp_mono (fun a' w' h3 => ⟨h3.2.1, lateT_first hi hsel hc hst hQ m (got.setIfInBounds j true) a' w' (fun k ok hk hki hun hno => ?_) (ready_mono hr (Ne.symm hji)) ?_ h3.1 (h3.2.1 hjst) ?_⟩) h2
      · refine hfree k ok hk hki ?_ hno
        by_cases hjk : j = k
        · subst hjk; exact hjun
        · rw [getD_set_ne true hjk] at hun; exact hun
      · unfold openW
        rw [List.all_eq_true]
        intro d hd
        rw [getD_set_ne true (fun e : j = d => hjd (by rw [e]; exact hd)), openW_mem ho hd]
        rfl
      · rw [Array.setIfInBounds_comm _ _ hji]
        exact h3.2.2
/-- A read, an address, a copy is taken first. -/
theorem lateT_take {i : Nat} {oi : Oper} {v : Value} {m : Nat} {got : Array Bool} {a : Act} {w : World} (ds : List Nat) (hi : ops[i]? = some oi) (hsel : Region.noSelect ops = true) (hf : Region.free md ops got i = true)
    (hr : (Region.ready md ops got).contains i = true) (hc : (chainW md ops i ds && openW got ds && ds.contains st) = true) (hQ : ∀ c a w, Q (.panic c) (a.put oi.dst v) w → Q (.panic c) a w) (hy : YieldsIf P ops S oi v a) (hS : S w)
    (h : lateT P md ops Q S st m (got.setIfInBounds i true) (a.put oi.dst v) w) : lateT P md ops Q S st (m + 1) got a w := by
  rw [Bool.and_eq_true, Bool.and_eq_true] at hc
  exact lateT_first hi hsel hc.1.1 (by simpa using hc.2) hQ m got a w (Region.free_spec hi hf) (by simpa using hr) hc.1.2 hy hS h
/-- The only operation that may come. -/
theorem lateT_step {i : Nat} {o : Oper} {m : Nat} {got : Array Bool} {a : Act} {w : World} (hr : Region.ready md ops got = [i]) (ho : ops[i]? = some o)
    (h : ∀ K : Act → World → Prop, Shut (∀ a w, (i ≠ st → S w) → lateT P md ops Q S st m (got.setIfInBounds i true) a w → K a w) → if Region.wanted o (yielded ops a.tmps) = true then Oper.wp P o a w K Q else K (a.put o.dst undef) w) : lateT P md ops Q S st (m + 1) got a w := by
  refine ⟨fun h0 => (by rw [hr] at h0; cases h0), fun j hj => ?_⟩
  rw [hr] at hj
  obtain rfl := List.mem_singleton.1 hj
  exact wpOp_step ho fun K hK => h K fun a w hS hl => hK a w ⟨hS, hl⟩
/-- One of two operations comes next. -/
theorem lateT_two {i j : Nat} {o o' : Oper} {m : Nat} {got : Array Bool} {a : Act} {w : World} (hr : Region.ready md ops got = [i, j]) (ho : ops[i]? = some o) (ho' : ops[j]? = some o')
    (h : ∀ K : Act → World → Prop, Shut (∀ a w, (i ≠ st → S w) → lateT P md ops Q S st m (got.setIfInBounds i true) a w → K a w) → if Region.wanted o (yielded ops a.tmps) = true then Oper.wp P o a w K Q else K (a.put o.dst undef) w)
    (h' : ∀ K : Act → World → Prop, Shut (∀ a w, (j ≠ st → S w) → lateT P md ops Q S st m (got.setIfInBounds j true) a w → K a w) → if Region.wanted o' (yielded ops a.tmps) = true then Oper.wp P o' a w K Q else K (a.put o'.dst undef) w) : lateT P md ops Q S st (m + 1) got a w := by
  refine ⟨fun h0 => (by rw [hr] at h0; cases h0), fun k hk => ?_⟩
  rw [hr] at hk
  rcases List.mem_cons.1 hk with rfl | hk
  · exact wpOp_step ho fun K hK => h K fun a w hS hl => hK a w ⟨hS, hl⟩
  · obtain rfl := List.mem_singleton.1 hk
    exact wpOp_step ho' fun K hK => h' K fun a w hS hl => hK a w ⟨hS, hl⟩
theorem lateT_done {got : Array Bool} {a : Act} {w : World} (hr : Region.ready md ops got = []) (h : Q .normal a w) : ∀ m, lateT P md ops Q S st m got a w
  | 0 => ⟨hr, h⟩
  | _ + 1 => ⟨fun _ => h, by rw [hr]; simp⟩
theorem lateT_begin {id : Nat} {a : Act} {w : World} (hm : P.follows .mixedOrders = true) (h : lateT P .any ops Q S st ops.size (Array.replicate ops.size false) a w.drew) : (Code.region id ops true).wp P Q a w :=
  wp_region_any hm (lateT.any _ _ _ _ h)
end

end Go.Proofs.YtnhomkmfbngmgaaGreatDoor

namespace Go.Proofs.YtnhomkmfbngmgaaGreatDoor
open Go.ChangeShapes Go.WideShapes Go.ChangeAt Go.RowKit
set_option linter.unusedVariables false
set_option linter.unusedSimpArgs false

/-- A box of a system and what it leads to. -/
def LtsBox (w : World) (g : Nat) (st ini : Int) (A : Option Addr) (n c : Nat) (B : Option Addr) (m d : Nat) : Prop := w.heap[g]? = some (.cells #[.int .i64 st, .int .i64 ini, .slice A n c, .slice B m d] 27 (0, 0))
section
variable {w : World} {g : Nat} {st ini : Int} {A : Option Addr} {n c : Nat} {B : Option Addr} {m d : Nat} (h : LtsBox w g st ini A n c B m d)
include h
theorem LtsBox.c0 : w.cell? ⟨g, 0, none⟩ = some (.int .i64 st) := (cell_of_row _ _ 0 _ _ (0, 0) h).trans rfl
theorem LtsBox.c1 : w.cell? ⟨g, 1, none⟩ = some (.int .i64 ini) := (cell_of_row _ _ 1 _ _ (0, 0) h).trans rfl
theorem LtsBox.c2 : w.cell? ⟨g, 2, none⟩ = some (.slice A n c) := (cell_of_row _ _ 2 _ _ (0, 0) h).trans rfl
theorem LtsBox.c3 : w.cell? ⟨g, 3, none⟩ = some (.slice B m d) := (cell_of_row _ _ 3 _ _ (0, 0) h).trans rfl
theorem LtsBox.f0 : w.frozen? ⟨g, 0, none⟩ = false := frozen_of_row _ _ 0 _ _ h
theorem LtsBox.f1 : w.frozen? ⟨g, 1, none⟩ = false := frozen_of_row _ _ 1 _ _ h
theorem LtsBox.f2 : w.frozen? ⟨g, 2, none⟩ = false := frozen_of_row _ _ 2 _ _ h
theorem LtsBox.f3 : w.frozen? ⟨g, 3, none⟩ = false := frozen_of_row _ _ 3 _ _ h
theorem LtsBox.lt : g < w.heap.size := (Array.getElem?_eq_some_iff.1 h).1
theorem LtsBox.only {lo hi : Nat} {w' : World} (g2 : Only lo hi w w') (hd : g < lo ∨ hi ≤ g) : LtsBox w' g st ini A n c B m d := (g2.block g h.lt hd).trans h
theorem LtsBox.below {K : Nat} {w' : World} (g2 : Below K w w') (hd : g < K) : LtsBox w' g st ini A n c B m d := (g2.block g hd).trans h
end
theorem ltsV_edge {st ini : Int} {ls : List ByteArray} {es : List Ed} (h : ltsV (st, ini, ls, es) = true) : (∀ e, e ∈ es → (0 ≤ e.1 ∧ e.1 < st) ∧ (0 ≤ e.2.1 ∧ e.2.1 < (ls.length : Int)) ∧ 0 ≤ e.2.2 ∧ e.2.2 < st) ∧ (1 ≤ st ∧ st ≤ 40) ∧ (0 ≤ ini ∧ ini < st) := by
  rw [ltsV_eq] at h
  simp only [Bool.and_eq_true, decide_eq_true_eq] at h
  obtain ⟨⟨h1, h2, h3, h4⟩, h5⟩ := h
  have h1 := inB_true.1 h1
  have h2 := inB_true.1 h2
  refine ⟨fun e he => ?_, by omega, by omega⟩
  obtain ⟨k, hk⟩ := List.getElem?_of_mem he
  have hkl := (List.getElem?_eq_some_iff.1 hk).1
  obtain ⟨f, lb, t⟩ := e
  have hok := allK_get h5 hkl
  have key : ∀ {b : Bool}, ((inB f 0 (st - 1) && (inB t 0 (st - 1) && inB lb 0 ((ls.length : Int) - 1))) && b) = true → (0 ≤ f ∧ f < st) ∧ (0 ≤ lb ∧ lb < (ls.length : Int)) ∧ 0 ≤ t ∧ t < st := fun h => by
    simp only [Bool.and_eq_true] at h
    obtain ⟨⟨g1, g2, g3⟩, _⟩ := h
    have g1 := inB_true.1 g1
    have g2 := inB_true.1 g2
    have g3 := inB_true.1 g3
    omega
  by_cases k0 : k = 0
  · subst k0
    rw [okE_zero hk] at hok
    exact key (b := true) (by rw [Bool.and_true]; exact hok)
  · obtain ⟨r, hr⟩ : ∃ r, es[k - 1]? = some r := ⟨_, List.getElem?_eq_getElem (by omega)⟩
    rw [okE_at hk (by omega) hr] at hok
    exact key hok

end Go.Proofs.YtnhomkmfbngmgaaGreatDoor

namespace Go.Proofs.YtnhomkmfbngmgaaGreatDoor
set_option linter.unusedVariables false
set_option linter.unusedSimpArgs false

/-- The numbers of a list, each once, in the order in which they come. -/
def firsts : List Int → List Int → List Int
  | L, [] => L
  | L, x :: l => firsts (if x ∈ L then L else L ++ [x]) l
theorem firsts_mem {L l : List Int} {x : Int} : x ∈ firsts L l ↔ x ∈ L ∨ x ∈ l := by
  induction l generalizing L with
  | nil => simp [firsts]
  | cons t l ih =>
    unfold firsts
    rw [ih]
    split
    · rename_i h
      constructor
      · rintro (g | g)
        · exact .inl g
        · exact .inr (List.mem_cons_of_mem _ g)
      · rintro (g | g)
        · exact .inl g
        · rcases List.mem_cons.1 g with rfl | g
          · exact .inl h
          · exact .inr g
    · simp only [List.mem_append, List.mem_singleton, List.mem_cons, or_assoc, List.not_mem_nil, false_or]
/-- Block numbers in the order of first occurrence. -/
def normF (l : List Int) : List Int := l.map fun x => ((firsts [] l).idxOf x : Int)
end Go.Proofs.YtnhomkmfbngmgaaGreatDoor

namespace Go.Proofs.YtnhomkmfbngmgaaGreatDoor
open Go.Sort
set_option linter.unusedVariables false
set_option linter.unusedSimpArgs false

/-! ## Equal keys, one block -/
section
variable {α : Type} [BEq α]
end

/-- Edges of a system with N states. -/
def EdIn (N : Nat) (es : List Ed) : Prop := ∀ e, e ∈ es → (0 ≤ e.1 ∧ e.1 < (N : Int)) ∧ 0 ≤ e.2.1 ∧ 0 ≤ e.2.2 ∧ e.2.2 < (N : Int)
/-- The numbers of blocks of N items. -/
structure PartN (N : Nat) (p : List Int) : Prop where
  len : p.length = N
  norm : normF p = p
section
variable {es : List Ed} {N : Nat} {p q : List Int}
theorem firsts_len_le (L l : List Int) : (firsts L l).length ≤ L.length + l.length := by
  induction l generalizing L with
  | nil => exact Nat.le_refl _
  | cons x l ih =>
    unfold firsts
    refine Nat.le_trans (ih _) ?_
    rw [List.length_cons]
    split
    · omega
    · rw [List.length_append, List.length_singleton]; omega
theorem PartN.range (h : PartN N p) : ∀ x, x ∈ p → 0 ≤ x ∧ x < (N : Int) := fun x hx => by
  rw [← h.norm] at hx
  unfold normF at hx
  obtain ⟨y, hy, rfl⟩ := List.mem_map.1 hx
  have h1 := List.idxOf_lt_length_of_mem (firsts_mem.2 (.inr hy) : y ∈ firsts [] p)
  have h2 := firsts_len_le [] p
  rw [h.len] at h2
  simp only [List.length_nil] at h2
  omega
end

section
variable {es : List Ed} {N : Nat}
end
end Go.Proofs.YtnhomkmfbngmgaaGreatDoor

namespace Go.Proofs.YtnhomkmfbngmgaaGreatDoor
open Go.ChangeShapes Go.WideShapes Go.ChangeAt Go.RowKit
set_option linter.unusedVariables false
set_option linter.unusedSimpArgs false

theorem mem_sum : ∀ {l : List Nat} {x : Nat}, x ∈ l → x ≤ l.sum
  | a :: l, x, h => by
    rw [List.sum_cons]
    rcases List.mem_cons.1 h with e | e
    · omega
    · have := mem_sum e; omega
/-- A valid system. -/
structure SysA (w : World) (N ini : Nat) (A : Option Addr) (n : Nat) (B : Option Addr) (m : Nat) (ls : List ByteArray) (es : List Ed) : Prop where
  ss : SlS w 0 w.heap.size A n ls
  se : SlE w 0 w.heap.size B m es
  ok : ltsV ((N : Int), (ini : Int), ls, es) = true
  sz : totS ls ≤ 100000
theorem Sl.here' {α : Type} {size : Nat} {f : α → List Value} {w : World} {lo hi n : Nat} {A : Option Addr} {l : List α} (h : Sl size f w lo hi A n l) : Sl size f w 0 w.heap.size A n l :=
  ⟨h.1, fun hn => by
    obtain ⟨b, off, e, g1, g2, g3, hc⟩ := h.2 hn
    exact ⟨b, off, e, Nat.zero_le _, g3, g3, hc⟩⟩
section
variable {w w' : World} {N ini : Nat} {A : Option Addr} {n c : Nat} {B : Option Addr} {m d : Nat} {ls : List ByteArray} {es : List Ed}
theorem SysA.below {K : Nat} (h : SysA w N ini A n B m ls es) (hb : Below K w w') (hK : w.heap.size ≤ K) : SysA w' N ini A n B m ls es :=
  ⟨(h.ss.below hb (.inr hK)).here', (h.se.below hb (.inr hK)).here', h.ok, h.sz⟩
theorem SysA.labs (h : SysA w N ini A n B m ls es) : ∀ e, e ∈ es → 0 ≤ e.2.1 ∧ e.2.1 < (ls.length : Int) := fun e he => ((ltsV_edge h.ok).1 e he).2.1
end
/-- What is drawn is a valid system. -/
theorem DrawnG.sys {K M Q b N : Nat} {w w' : World} {e : Ending} (h : DrawnG K M Q b N w e w') (hK : K ≤ 12) : ∃ (st ini : Nat) (A : Option Addr) (n c : Nat) (B : Option Addr) (m d : Nat) (ls : List ByteArray) (es : List Ed),
    e = .returned (.agg #[.int .i64 (st : Int), .int .i64 (ini : Int), .slice A n c, .slice B m d]) ∧ SysA w' st ini A n B m ls es ∧ st ≤ 7 ∧ es.length ≤ M ∧ n ≤ K ∧ NamD ls ∧ SrcW w' b (N + Q) ∧ Only b (b + 1) w w' ∧ SlS w' w.heap.size w'.heap.size A n ls ∧ SlE w' w.heap.size w'.heap.size B m es := by
  obtain ⟨st, ini, A, n, c, B, m, d, ts, es, rfl, hA, hB, hv, h7, hM, hn, hD, hS, hO⟩ := h
  have hnam : NamD (joiF ts) := fun x hx => ((joi_mem_iff ts x).1 hx).elim .inl (hD x)
  refine ⟨st, ini, A, n, c, B, m, d, joiF ts, es, rfl, ⟨hA.here', hB.here', hv, ?_⟩, h7, hM, hn, hnam, hS, hO, hA, hB⟩
  have hl := hA.len
  have key : ∀ l : List ByteArray, NamD l → (l.map (·.size)).sum ≤ 6 * l.length := by
    intro l
    induction l with
    | nil => intro _; simp
    | cons x l ih =>
      intro hx
      have h1 := ih fun y hy => hx y (List.mem_cons_of_mem _ hy)
      have h2 : x.size ≤ 6 := by
        rcases hx x (List.mem_cons_self ..) with e | e
        · rw [e]; decide
        · unfold nm5 at e
          simp only [List.mem_cons, List.mem_nil_iff, or_false] at e
          rcases e with rfl | rfl | rfl | rfl | rfl <;> decide
      simp only [List.map_cons, List.sum_cons, List.length_cons]
      omega
  have := key _ hnam
  unfold totS
  omega
end Go.Proofs.YtnhomkmfbngmgaaGreatDoor

namespace Go.Proofs.YtnhomkmfbngmgaaGreatDoor
open Go.ChangeShapes Go.WideShapes Go.ChangeAt Go.RowKit
set_option linter.unusedVariables false
set_option linter.unusedSimpArgs false

abbrev ltsC (N ini : Nat) (A : Option Addr) (n c : Nat) (B : Option Addr) (m d : Nat) : Obj := .cells #[.int .i64 (N : Int), .int .i64 (ini : Int), .slice A n c, .slice B m d] 27
/-- A boxed system: the box, the system, all below as it was. -/
structure BoxA (w w1 : World) (N ini : Nat) (A : Option Addr) (n c : Nat) (B : Option Addr) (m d : Nat) (ls : List ByteArray) (es : List Ed) : Prop where
  box : LtsBox w1 w.heap.size (N : Int) (ini : Int) A n c B m d
  sys : SysA w1 N ini A n B m ls es
  bel : Below w.heap.size w w1
theorem SysA.box {w : World} {N ini : Nat} {A : Option Addr} {n c : Nat} {B : Option Addr} {m d : Nat} {ls : List ByteArray} {es : List Ed} (h : SysA w N ini A n B m ls es) : BoxA w (w.alloc (ltsC N ini A n c B m d)) N ini A n c B m d ls es := by
  have hb := (Below.refl w.heap.size w).alloc (Nat.le_refl _) (ltsC N ini A n c B m d)
  exact ⟨heap_alloc_new w _, h.below hb (Nat.le_refl _), hb⟩
section
variable {w w1 w2 : World} {N ini : Nat} {A : Option Addr} {n c : Nat} {B : Option Addr} {m d : Nat} {ls : List ByteArray} {es : List Ed}
theorem BoxA.below (h : BoxA w w1 N ini A n c B m d ls es) (hb : Below w1.heap.size w1 w2) : BoxA w w2 N ini A n c B m d ls es :=
  ⟨h.box.below hb h.box.lt, h.sys.below hb (Nat.le_refl _), h.bel.trans (hb.mono h.bel.size)⟩
theorem BoxA.lt (h : BoxA w w1 N ini A n c B m d ls es) : w.heap.size < w1.heap.size := h.box.lt
end

section
variable {w : World} {N ini : Nat} {A : Option Addr} {n : Nat} {B : Option Addr} {m : Nat} {ls : List ByteArray} {es : List Ed}
end
end Go.Proofs.YtnhomkmfbngmgaaGreatDoor

namespace Go.Proofs.YtnhomkmfbngmgaaGreatDoor
open Go.ChangeShapes Go.WideShapes Go.ChangeAt Go.RowKit
set_option linter.unusedVariables false
set_option linter.unusedSimpArgs false

theorem grown_cell8 {w w' : World} {row : Option Nat} {q i : Nat} {v : Value} (h : w.grownBy w' row) (hq : q < w.heap.size) (hne : some q ≠ row) (hc : w.cell? ⟨q, i, none⟩ = some v) : w'.cell? ⟨q, i, none⟩ = some v :=
  (World.cell?_of_block (w := w) (by simpa using h.block q hq hne)).trans hc
section
variable {w : World} {N ini : Nat} {A : Option Addr} {n : Nat} {B : Option Addr} {m : Nat} {ls : List ByteArray} {es : List Ed}
end
end Go.Proofs.YtnhomkmfbngmgaaGreatDoor

namespace Go.Proofs.YtnhomkmfbngmgaaGreatDoor
open Go.ChangeShapes Go.WideShapes Go.ChangeAt Go.RowKit Go.Sort Go.Lib
set_option linter.unusedVariables false
set_option linter.unusedSimpArgs false

/-- The first place of a text, or -1. -/
def idxZ (l : List ByteArray) (v : ByteArray) : Int := if l.any (fun x => decide (x = v)) then ((l.findIdx fun x => decide (x = v) : Nat) : Int) else -1
theorem idxZ_hit {l : List ByteArray} {v : ByteArray} {k : Nat} (hx : l[k]? = some v) (ha : (l.take k).any (fun x => decide (x = v)) = false) : idxZ l v = (k : Int) := by
  obtain ⟨hk, e⟩ := List.getElem?_eq_some_iff.1 hx
  have h1 : l.any (fun x => decide (x = v)) = true := any_hit (G := fun x => decide (x = v)) hx (decide_eq_true rfl)
  unfold idxZ
  rw [if_pos h1]
  congr 1
  rw [List.findIdx_eq hk]
  refine ⟨by rw [e]; exact decide_eq_true rfl, fun j hj => ?_⟩
  rw [List.any_eq_false] at ha
  have := ha (l[j]'(by omega)) (List.mem_of_getElem? (show (l.take k)[j]? = some l[j] by rw [List.getElem?_take, if_pos hj, List.getElem?_eq_getElem (by omega)]))
  simpa using this
theorem idxZ_none {l : List ByteArray} {v : ByteArray} (ha : l.any (fun x => decide (x = v)) = false) : idxZ l v = -1 := by
  unfold idxZ
  rw [ha]
  rfl
set_option maxRecDepth 100000 in
theorem indexZ_calls (v : ByteArray) (A : Option Addr) (n c : Nat) (l : List ByteArray) (w : World) (lo hi : Nat) (h : SlS w lo hi A n l) (hn : n ≤ 1048576) :
    Calls Tryz.prog 185 #[.slice A n c, .string v] w fun e w' => e = .returned (.int .i64 (idxZ l v)) ∧ w' = w := by
  have hlen := hide h.len
  go_enter Tryz.func185, Tryz.ntmps185
  go_wp2
  go_loop [8] (fun i => ∃ k : Nat, k ≤ n ∧ i = .int .i64 k ∧ Hid ((l.take k).any (fun x => decide (x = v)) = false)) (fun i => n - (intOf i).toNat)
  case atStart => exact ⟨0, Nat.zero_le _, rfl, rfl⟩
  case round =>
    obtain ⟨k, hk, rfl, ha⟩ := hrel
    by_cases hlt : k < n
    · obtain ⟨b, off, x, rfl, g1, g2, g3, hx, c0, -⟩ := SlS.get h hlt
      clear h
      by_cases hq : x = v
      · subst hq
        have hy := hide (idxZ_hit hx ha.out)
        have hself : (x.toList == x.toList) = true := beq_self_eq_true _
        clear hx
        go_wp2
        go_ret
        exact ⟨ret_i (by rw [hy.out]), rfl⟩
      · have hy := hide (any_take_succ ha.out hx (decide_eq_false hq))
        have hne := str_neq hq
        have hne2 : ¬ x.toList = v.toList := fun e => by rw [e, beq_self_eq_true] at hne; cases hne
        obtain ⟨hne3, hne4⟩ := str_list_ne3 hq
        clear hx hq
        go_wp2
        go_round
        case rel => exact ⟨k + 1, by omega, by go_num, hy⟩
        case measure => simp [intOf]; omega
    · have hkn : k = n := by omega
      subst hkn
      clear h
      go_wp2
      go_ret
      have hy := ha.out
      rw [List.take_of_length_le (by rw [hlen.out]; exact Nat.le_refl _)] at hy
      exact ⟨ret_i (by rw [idxZ_none hy]), rfl⟩

/-- An arc: where from, the label's text, where to. -/
abbrev Arc := Int × ByteArray × Int
def av (a : Arc) : List Value := [.int .i64 a.1, .string a.2.1, .int .i64 a.2.2]
abbrev SlA := Sl 3 av
theorem SlA.get {w : World} {lo hi n : Nat} {A : Option Addr} {l : List Arc} (h : SlA w lo hi A n l) {k : Nat} (hk : k < n) :
    ∃ b off x y z, A = some ⟨b, off, none⟩ ∧ lo ≤ b ∧ b < hi ∧ b < w.heap.size ∧ l[k]? = some (x, y, z) ∧ w.cell? ⟨b, off + k * 3, none⟩ = some (.int .i64 x) ∧ w.cell? ⟨b, off + k * 3 + 1, none⟩ = some (.string y) ∧ w.cell? ⟨b, off + k * 3 + 2, none⟩ = some (.int .i64 z) := by
  obtain ⟨b, off, e, g1, g2, g3, hc⟩ := h.at_ (by omega)
  have hl : k < l.length := by rw [h.len]; exact hk
  have h0 := hc k l[k] (List.getElem?_eq_getElem hl) 0 _ rfl
  have h1 := hc k l[k] (List.getElem?_eq_getElem hl) 1 _ rfl
  have h2 := hc k l[k] (List.getElem?_eq_getElem hl) 2 _ rfl
  rw [← Nat.add_assoc] at h1 h2
  exact ⟨b, off, l[k].1, l[k].2.1, l[k].2.2, e, g1, g2, g3, List.getElem?_eq_getElem hl, h0.1, h1.1, h2.1⟩
/-- The edge of an arc. -/
def arcD (L : List ByteArray) (a : Arc) : Ed := (a.1, idxZ L a.2.1, a.2.2)
/-- The edges that impl.lts lays. -/
def ltsEs (ls : List ByteArray) (rs : List Arc) : List Ed := Lib.compact (sortE (rs.map (arcD (joiF ls))))
end Go.Proofs.YtnhomkmfbngmgaaGreatDoor

namespace Go.Proofs.YtnhomkmfbngmgaaGreatDoor
open Go.ChangeShapes Go.WideShapes Go.ChangeAt Go.RowKit Go.Sort Go.Lib
set_option linter.unusedVariables false
set_option linter.unusedSimpArgs false

theorem LtsBox.set2 {w : World} {g : Nat} {st ini : Int} {A B A' : Option Addr} {n c m d n' c' : Nat} (h : LtsBox w g st ini A n c B m d) : LtsBox (w.setCell ⟨g, 2, none⟩ (.slice A' n' c')) g st ini A' n' c' B m d := heap_setCell_same w g 2 _ _ _ h
theorem LtsBox.set3 {w : World} {g : Nat} {st ini : Int} {A B B' : Option Addr} {n c m d m' d' : Nat} (h : LtsBox w g st ini A n c B m d) : LtsBox (w.setCell ⟨g, 3, none⟩ (.slice B' m' d')) g st ini A n c B' m' d' := heap_setCell_same w g 3 _ _ _ h
theorem LtsBox.grown {w w' : World} {row : Option Nat} {g : Nat} {st ini : Int} {A B : Option Addr} {n c m d : Nat} (h : LtsBox w g st ini A n c B m d) (hg : w.grownBy w' row) (hne : some g ≠ row) : LtsBox w' g st ini A n c B m d := by
  have h1 := hg.block g h.lt hne
  exact h1.trans h
theorem Own.asideL {α : Type} {size : Nat} {f : α → List Value} {w : World} {base n c : Nat} {e : TypeId} {A : Option Addr} {l : List α} (h : Own size f w base e A n c l) {g j : Nat} (hne : some g ≠ (Value.slice A n c).ownBlock) (v : Value) : Own size f (w.setCell ⟨g, j, none⟩ v) base e A n c l :=
  h.keep fun q hq => (((Only.refl g (g + 1) w).setCell (p := ⟨g, j, none⟩) (Nat.le_refl _) (Nat.lt_succ_self _) v).block q (h.lt q hq).2 (by
    have : g ≠ q := fun e => hne (by rw [e, hq])
    omega))
theorem Own.le_cap {α : Type} {size : Nat} {f : α → List Value} {w : World} {base n c : Nat} {e : TypeId} {A : Option Addr} {l : List α} (h : Own size f w base e A n c l) : n ≤ c := by
  rcases h.2.2 with ⟨hv, hn⟩ | ⟨g, cap, cur, hv, hb, hg, hnc, -⟩
  · omega
  · cases hv
    exact hnc
/-- Where the making of a system stands. -/
structure LtmL (w wr : World) (g9 w0s : Nat) (s i : Int) (A1 : Option Addr) (n2 c1 : Nat) (J : List ByteArray) (A3 : Option Addr) (k c3 : Nat) (E : List Ed) : Prop where
  box : LtsBox wr g9 s i A1 n2 c1 A3 k c3
  res : LtsBox wr w.heap.size 0 0 none 0 0 none 0 0
  labs : Own 1 strv wr w0s 9 A1 n2 c1 J
  eds : Own 3 ev wr (g9 + 1) 84 A3 k c3 E
  bel : Below w.heap.size w wr
  base : w.heap.size < w0s ∧ w0s ≤ g9
  lt : ∀ q, (Value.slice A1 n2 c1).ownBlock = some q → q < g9
section
variable {w wr w' : World} {g9 w0s : Nat} {s i : Int} {A1 : Option Addr} {n2 c1 : Nat} {J : List ByteArray} {A3 : Option Addr} {k c3 : Nat} {E : List Ed}
theorem LtmL.below (h : LtmL w wr g9 w0s s i A1 n2 c1 J A3 k c3 E) (hb : Below wr.heap.size wr w') : LtmL w w' g9 w0s s i A1 n2 c1 J A3 k c3 E where
  box := h.box.below hb h.box.lt
  res := h.res.below hb h.res.lt
  labs := h.labs.below hb (Nat.le_refl _)
  eds := h.eds.below hb (Nat.le_refl _)
  bel := h.bel.trans (hb.mono h.bel.size)
  base := h.base
  lt := h.lt
theorem LtmL.same (h : LtmL w wr g9 w0s s i A1 n2 c1 J A3 k c3 E) {E' : List Ed} (hg : wr.grownBy w' (Value.slice A3 k c3).ownBlock) (ho : Own 3 ev w' (g9 + 1) 84 A3 k c3 E') : LtmL w w' g9 w0s s i A1 n2 c1 J A3 k c3 E' := by
  have hb0 := h.base
  have ha : ∀ q, q ≤ g9 → some q ≠ (Value.slice A3 k c3).ownBlock := fun q hq e => by
    have := (h.eds.lt q e.symm).1
    omega
  exact ⟨h.box.grown hg (ha _ (Nat.le_refl _)), h.res.grown hg (ha _ (by omega)), h.labs.keep fun q hq => hg.block q (h.labs.lt q hq).2 (ha q (by have := h.lt q hq; omega)), ho, h.bel.grown hg h.bel.size fun q e => by have := (h.eds.lt q e).1; omega, hb0, h.lt⟩
theorem LtmL.grown (h : LtmL w wr g9 w0s s i A1 n2 c1 J A3 k c3 E) {A7 : Option Addr} {k7 c7 : Nat} {E' : List Ed} (hg : wr.grownBy w' (Value.slice A3 k c3).ownBlock) (ho : Own 3 ev w' (g9 + 1) 84 A7 k7 c7 E') : LtsBox w' g9 s i A1 n2 c1 A3 k c3 ∧ LtmL w (w'.setCell ⟨g9, 3, none⟩ (.slice A7 k7 c7)) g9 w0s s i A1 n2 c1 J A7 k7 c7 E' := by
  have hb0 := h.base
  have ha : ∀ q, q ≤ g9 → some q ≠ (Value.slice A3 k c3).ownBlock := fun q hq e => by
    have := (h.eds.lt q e.symm).1
    omega
  have hbx := h.box.grown hg (ha _ (Nat.le_refl _))
  have hrs := h.res.grown hg (ha _ (by omega))
  have hO : Only g9 (g9 + 1) w' (w'.setCell ⟨g9, 3, none⟩ (.slice A7 k7 c7)) := (Only.refl g9 (g9 + 1) w').setCell (p := ⟨g9, 3, none⟩) (Nat.le_refl _) (Nat.lt_succ_self _) _
  have hbel : Below w.heap.size w w' := h.bel.grown hg h.bel.size fun q e => by have := (h.eds.lt q e).1; omega
  refine ⟨hbx, hbx.set3, hrs.only hO (.inl (by omega)), ?_, ?_, Only.below hbel hO (by omega) hbel.size, hb0, h.lt⟩
  · have hl : Own 1 strv w' w0s 9 A1 n2 c1 J := h.labs.keep fun q hq => hg.block q (h.labs.lt q hq).2 (ha q (by have := h.lt q hq; omega))
    exact hl.asideL (fun e => by have := h.lt _ e.symm; omega) _
  · exact ho.asideL (fun e => by have := (ho.lt _ e.symm).1; omega) _
end
theorem Own.sink {α : Type} {size : Nat} {f : α → List Value} {w : World} {base base' n c : Nat} {e : TypeId} {A : Option Addr} {l : List α} (h : Own size f w base e A n c l) (hb : base' ≤ base) : Own size f w base' e A n c l := by
  refine ⟨h.1, h.2.1, ?_⟩
  rcases h.2.2 with hn | ⟨g, cap, cur, hv, hg, rest⟩
  · exact .inl hn
  · exact .inr ⟨g, cap, cur, hv, by omega, rest⟩
theorem LtmL.done {w wr : World} {g9 w0s : Nat} {s i : Int} {A1 : Option Addr} {n2 c1 : Nat} {J : List ByteArray} {A3 : Option Addr} {k c3 : Nat} {E : List Ed} (h : LtmL w wr g9 w0s s i A1 n2 c1 J A3 k c3 E) {wf : World} (a b c d : Value)
    (hw : wf = (((wr.setCell ⟨w.heap.size, 0, none⟩ a).setCell ⟨w.heap.size, 1, none⟩ b).setCell ⟨w.heap.size, 2, none⟩ c).setCell ⟨w.heap.size, 3, none⟩ d) :
    SlS wf w.heap.size wf.heap.size A1 n2 J ∧ Own 3 ev wf w.heap.size 84 A3 k c3 E ∧ Below w.heap.size w wf := by
  have hb0 := h.base
  have n1 : some w.heap.size ≠ (Value.slice A1 n2 c1).ownBlock := fun e => by have := (h.labs.lt _ e.symm).1; omega
  have n3 : some w.heap.size ≠ (Value.slice A3 k c3).ownBlock := fun e => by have := (h.eds.lt _ e.symm).1; omega
  have o1 := (Only.refl w.heap.size (w.heap.size + 1) wr).setCell (p := ⟨w.heap.size, 0, none⟩) (Nat.le_refl _) (Nat.lt_succ_self _) a
  have o2 := o1.setCell (p := ⟨w.heap.size, 1, none⟩) (Nat.le_refl _) (Nat.lt_succ_self _) b
  have o3 := o2.setCell (p := ⟨w.heap.size, 2, none⟩) (Nat.le_refl _) (Nat.lt_succ_self _) c
  have o4 := o3.setCell (p := ⟨w.heap.size, 3, none⟩) (Nat.le_refl _) (Nat.lt_succ_self _) d
  rw [hw]
  refine ⟨?_, ?_, Only.below h.bel o4 (Nat.le_refl _) h.bel.size⟩
  · exact (((((h.labs.asideL n1 _).asideL n1 _).asideL n1 _).asideL n1 _).sl flat_strv).more (by omega) (Nat.le_refl _)
  · exact (((((h.eds.asideL n3 _).asideL n3 _).asideL n3 _).asideL n3 _)).sink (by omega)
set_option maxRecDepth 100000 in
set_option maxHeartbeats 6400000 in
theorem ltsC_calls (s i : Int) (A : Option Addr) (n c : Nat) (ls : List ByteArray) (B : Option Addr) (m d : Nat) (rs : List Arc) (w : World) (lo hi lo2 hi2 : Nat) (hA : SlS w lo hi A n ls) (hhi : hi ≤ w.heap.size) (hn : n ≤ 100000) (hB : SlA w lo2 hi2 B m rs) (hhi2 : hi2 ≤ w.heap.size) (hm : m ≤ 100000000) :
    Calls Tryz.prog 134 #[.int .i64 s, .int .i64 i, .slice A n c, .slice B m d] w fun e w' => ∃ A2 n2 c2 A3 n3 c3, e = .returned (.agg #[.int .i64 s, .int .i64 i, .slice A2 n2 c2, .slice A3 n3 c3]) ∧ SlS w' w.heap.size w'.heap.size A2 n2 (joiF ls) ∧ Own 3 ev w' w.heap.size 84 A3 n3 c3 (ltsEs ls rs) ∧ Below w.heap.size w w' ∧ n2 ≤ c2 := by
  have hEs := hide elem_str
  have hEe := hide elem_edge
  have hlA := hide hA.len
  have hlB := hide hB.len
  obtain ⟨w0, hw0⟩ : ∃ w0, w0 = w.alloc (.cells #[.int .i64 0, .int .i64 0, .slice none 0 0, .slice none 0 0] 27) := ⟨_, rfl⟩
  have hb0 : Below w.heap.size w w0 := by rw [hw0]; exact (Below.refl _ _).alloc (Nat.le_refl _) _
  have hz0 : w0.heap.size = w.heap.size + 1 := by rw [hw0]; exact World.size_alloc _ _
  have k0 : w0.heap[w.heap.size]? = some (.cells #[.int .i64 0, .int .i64 0, .slice none 0 0, .slice none 0 0] 27 (0, 0)) := by rw [hw0]; exact heap_alloc_new w _
  have k1 := heap_alloc_new w0 (.cells #[.string (⟨#[116, 97, 117]⟩ : ByteArray)] 9)
  have hst : Hid (Own 1 strv (w0.alloc (.cells #[.string (⟨#[116, 97, 117]⟩ : ByteArray)] 9)) w0.heap.size 9 (some ⟨w0.heap.size, 0, none⟩) 1 1 [(⟨#[116, 97, 117]⟩ : ByteArray)]) := Own.litL k1 rfl (Nat.le_refl _)
  have hb1 := hide (hb0.alloc (by omega) (.cells #[.string (⟨#[116, 97, 117]⟩ : ByteArray)] 9))
  have hA1 := hide (hA.below hb1.out (.inl hhi))
  have hz1 : (w0.alloc (.cells #[.string (⟨#[116, 97, 117]⟩ : ByteArray)] 9)).heap.size = w0.heap.size + 1 := World.size_alloc _ _
  have hza : w0.heap.size ≤ (w0.alloc (.cells #[.string (⟨#[116, 97, 117]⟩ : ByteArray)] 9)).heap.size := by omega
  replace hB := hide hB
  clear hA k1
  go_enter Tryz.func134, Tryz.ntmps134
  go_upto_region 1 with fail
  rw [← show w0 = _ from hw0]
  replace hw0 := hide hw0
  replace hz0 := hide hz0
  replace hz1 := hide hz1
  go_upto_region 2 with (first | (at_builtin; (with_reducible refine wpList_app rfl (.tmp 14) (.tmp 15) rfl hEs.out flat_strv rfl hst.out rfl hA1.out ?d1 hza ?_); rotate_right; intro A1 c1 w1 hown1 hgr1 hbw1 hat1))
  case d1 => omega

  obtain ⟨w2, hw2⟩ : ∃ w2, w2 = w1.alloc (.cells #[.int .i64 s, .int .i64 i, .slice A1 (1 + n) c1, .slice none 0 0] 27) := ⟨_, rfl⟩
  have hBx2 : Hid (LtsBox w2 w1.heap.size s i A1 (1 + n) c1 none 0 0) := by rw [hw2]; exact heap_alloc_new w1 _
  have hO2 : Hid (Own 1 strv w2 w0.heap.size 9 A1 (1 + n) c1 (tauB :: ls)) := by rw [hw2]; exact hown1.alloc _
  have hb2 : Hid (Below w.heap.size w w2) := by
    rw [hw2]
    have := hz0.out
    exact (hb1.out.trans (hbw1.mono (by omega))).alloc (Nat.le_trans hb1.out.size hbw1.size) _
  have hRs2 : LtsBox w2 w.heap.size 0 0 none 0 0 none 0 0 := by
    have e0 : LtsBox w0 w.heap.size 0 0 none 0 0 none 0 0 := k0
    have e1 : LtsBox w1 w.heap.size 0 0 none 0 0 none 0 0 := (e0.below (K := w0.heap.size) ((Below.refl _ _).alloc (Nat.le_refl _) _) e0.lt).below hbw1 e0.lt
    rw [hw2]
    exact e1.below (K := w1.heap.size) ((Below.refl _ _).alloc (Nat.le_refl _) _) e1.lt
  have hng : ∀ q, (Value.slice A1 (1 + n) c1).ownBlock = some q → w0.heap.size ≤ q ∧ q < w1.heap.size := hown1.lt
  have hz1b : Hid (w0.heap.size ≤ w1.heap.size) := by have := hgr1.size; show _ ≤ _; omega
  have hqS := hide (sortL_calls hO2.out (by omega))
  have b2 := hBx2.out.c2
  rw [← hw2]
  replace hw2 := hide hw2
  clear hown1 hgr1 hbw1 hat1 hst hza
  go_upto_region 3 with (first | (go_at_call 225; (with_reducible refine hqS.out.mono ?_); rintro e w3 ⟨rfl, hO3, hg3⟩))
  have hnb : some w1.heap.size ≠ (Value.slice A1 (1 + n) c1).ownBlock := fun e => by have := (hng _ e.symm).2; omega
  have hBx3 := hBx2.out.grown hg3 hnb
  have hb3 := hide (hb2.out.grown hg3 hb2.out.size fun q e => by have := (hng q e).1; have := hz0.out; omega)
  obtain ⟨n2, hn2⟩ : ∃ n2, n2 = (Lib.compact (((tauB :: ls).map toL).mergeSort fun x y => !(ltL y x))).length := ⟨_, rfl⟩
  have hqC := compactD_calls hO3 (by omega)
  rw [← hn2] at hqC
  have hJl : Hid ((joiF ls).length = n2) := by show _ = _; unfold joiF; rw [List.length_map, hn2]
  have hn2b : n2 ≤ n + 1 := by
    rw [hn2]
    refine Nat.le_trans (Go.Lib.compact_length_le _) ?_
    rw [List.length_mergeSort, List.length_map, List.length_cons, hlA.out]
    exact Nat.le_refl _
  replace hn2 := hide hn2
  replace hqC := hide hqC
  have hO3l := hide (fun q hq => (hO3.lt q hq).2)
  have hz3 := hg3.size
  have hrs3 : LtsBox w3 w.heap.size 0 0 none 0 0 none 0 0 := hRs2.grown hg3 fun e => by have := (hng _ e.symm).1; have := hz0.out; omega
  have c23 := hBx3.c2
  clear hO3 hO2 hBx2 hqS b2
  replace hBx3 := hide hBx3
  go_upto_region 4 with (first | (go_at_call 227; (with_reducible refine hqC.out.mono ?_); rintro e w4 ⟨rfl, hO4, hg4⟩; have hBx4 := hBx3.out.grown hg4 hnb; have c24 := hBx4.c2; have f24 := hBx4.f2))
  have hL : Hid (LtmL w (w4.setCell ⟨w1.heap.size, 2, none⟩ (.slice A1 n2 c1)) w1.heap.size w0.heap.size s i A1 n2 c1 (joiF ls) none 0 0 []) := by
    have hO : Only w1.heap.size (w1.heap.size + 1) w4 (w4.setCell ⟨w1.heap.size, 2, none⟩ (.slice A1 n2 c1)) := (Only.refl _ _ _).setCell (p := ⟨w1.heap.size, 2, none⟩) (Nat.le_refl _) (Nat.lt_succ_self _) _
    have e1 := hz0.out
    have e2 := hz1b.out
    have hb4 : Below w.heap.size w w4 := hb3.out.grown hg4 hb3.out.size fun q e => by have := (hng q e).1; omega
    have hr4 := hrs3.grown hg4 fun e => by have := (hng _ e.symm).1; omega
    have hng2 : ∀ q, (Value.slice A1 n2 c1).ownBlock = some q → w0.heap.size ≤ q ∧ q < w1.heap.size := by
      intro q hq
      refine hng q ?_
      cases A1 with
      | none => exact hq
      | some a => exact hq
    exact ⟨hBx4.set2, hr4.only hO (.inl (by omega)), hO4.asideL (fun e => by have := (hng2 _ e.symm).2; omega) _, Own.nil_ _ _ _, Only.below hb4 hO (by omega) hb4.size, ⟨by omega, e2⟩, fun q hq => (hng2 q hq).2⟩
  generalize w4.setCell ⟨w1.heap.size, 2, none⟩ (.slice A1 n2 c1) = w5 at *
  clear hO4 hg4 hBx4 c24 f24 hBx3 c23 hqC hrs3 hRs2 hz3 hO3l hg3 hnb hng hb3 hb2 hz1b
  generalize w1.heap.size = g9 at *
  obtain ⟨es, hes⟩ : ∃ es, es = rs.map (arcD (joiF ls)) := ⟨_, rfl⟩
  go_wp2_with fail
  go_loopw [27] (fun v27 wr => ∃ (k : Nat) (A3 : Option Addr) (c3 : Nat), k ≤ m ∧ v27 = .int .i64 (k : Nat) ∧ Hid (LtmL w wr g9 w0.heap.size s i A1 n2 c1 (joiF ls) A3 k c3 (es.take k))) (fun v _ => m - (intOf v).toNat)
  case atStart => exact ⟨0, none, 0, Nat.zero_le _, rfl, hL.out⟩
  case round =>
    clear hL
    obtain ⟨k, A3, c3, hk, rfl, hL⟩ := hrel
    by_cases hlt : k < m
    · obtain ⟨gB, oB, f, lb, t, rfl, -, -, hgB, hx, x0, x1, x2⟩ := SlA.get (hB.out.below hL.out.bel (.inl hhi2)) hlt
      have k0 : (0 : Int) ≤ (k : Int) := by omega
      have k1 : (k : Int) < (m : Int) := by omega
      have hes1 : Hid (es.take (k + 1) = es.take k ++ [(f, idxZ (joiF ls) lb, t)]) := by
        show _ = _
        rw [List.take_add_one, hes, List.getElem?_map, hx]
        rfl
      replace hx := hide hx
      replace hes := hide hes
      obtain ⟨bA, hbA⟩ : ∃ bA, bA = wr.heap.size := ⟨_, rfl⟩
      obtain ⟨z, hz⟩ : ∃ z, z = idxZ (joiF ls) lb := ⟨_, rfl⟩
      obtain ⟨wA, hwA⟩ : ∃ wA, wA = wr.alloc (.cells #[.int .i64 f, .string lb, .int .i64 t] 204) := ⟨_, rfl⟩
      have hLA := hL.out.below (w' := wA) (by rw [hwA]; exact (Below.refl _ _).alloc (Nat.le_refl _) _)
      have ka : wA.heap[bA]? = some (.cells #[.int .i64 f, .string lb, .int .i64 t] 204 (0, 0)) := by rw [hwA, hbA]; exact heap_alloc_new wr _
      obtain ⟨wD, hwD⟩ : ∃ wD, wD = wA.drew := ⟨_, rfl⟩
      have hLD := hide (hLA.below (w' := wD) (by rw [hwD]; exact (Below.refl _ _).drew))
      have kd : wD.heap[bA]? = some (.cells #[.int .i64 f, .string lb, .int .i64 t] 204 (0, 0)) := by rw [hwD]; exact ka
      have hbD : bA < wD.heap.size := (Array.getElem?_eq_some_iff.1 kd).1
      have b2 := hLD.out.box.c2
      have b3 := hLD.out.box.c3
      have e0 := (cell_of_row _ _ 0 _ _ (0, 0) kd).trans (show _ = some (Value.int .i64 f) from rfl)
      have e1 := (cell_of_row _ _ 1 _ _ (0, 0) kd).trans (show _ = some (Value.string lb) from rfl)
      have e2 := (cell_of_row _ _ 2 _ _ (0, 0) kd).trans (show _ = some (Value.int .i64 t) from rfl)
      have hqI := indexZ_calls lb A1 n2 c1 (joiF ls) wD _ _ (hLD.out.labs.sl flat_strv) (by omega)
      rw [← hz] at hqI hes1
      replace hqI := hide hqI
      obtain ⟨wL, hwL⟩ : ∃ wL, wL = wD.alloc (.cells #[.int .i64 f, .int .i64 z, .int .i64 t] 84) := ⟨_, rfl⟩
      have hblL : Below wD.heap.size wD wL := by rw [hwL]; exact (Below.refl _ _).alloc (Nat.le_refl _) _
      have hLL := hide (hLD.out.below hblL)
      have hOL := hide hLL.out.eds
      have a2 := hLL.out.box.c2
      have a3 := hLL.out.box.c3
      have a4 := (hblL.cell (p := ⟨bA, 0, none⟩) hbD).trans e0
      have a5 := (hblL.cell (p := ⟨bA, 1, none⟩) hbD).trans e1
      have a6 := (hblL.cell (p := ⟨bA, 2, none⟩) hbD).trans e2
      have hbL : bA < wL.heap.size := Nat.lt_of_lt_of_le hbD hblL.size
      have hnA : some bA ≠ (Value.slice A3 k c3).ownBlock := fun e => by have := (hL.out.eds.lt bA e.symm).2; omega
      have hlit : Hid (Sl 3 ev wL 0 (wD.heap.size + 1) (some ⟨wD.heap.size, 0, none⟩) 1 [(f, z, t)]) := by
        rw [hwL]
        exact Sl.lit1' (f := ev) wD 84 (f, z, t) #[.int .i64 f, .int .i64 z, .int .i64 t] rfl 3 _ rfl
      have hsz : (k + 1) * 24 ≤ 140737488355328 := by omega
      have hza : g9 + 1 ≤ wL.heap.size := hLL.out.box.lt
      go_upto_region 7 with fail
      rw [← show bA = _ from hbA]
      rw [← show wA = _ from hwA]
      replace hwA := hide hwA
      replace hwD := hide hwD
      replace hbA := hide hbA
      replace hz := hide hz
      replace hwL := hide hwL
      clear x0 x1 x2 kd ka hLA hblL
      refine lateT_begin (S := fun w' => w'.cell? ⟨g9, 2, none⟩ = some (.slice A1 n2 c1) ∧ w'.cell? ⟨g9, 3, none⟩ = some (.slice A3 k c3) ∧ w'.cell? ⟨bA, 0, none⟩ = some (.int .i64 f) ∧ w'.cell? ⟨bA, 1, none⟩ = some (.string lb) ∧ w'.cell? ⟨bA, 2, none⟩ = some (.int .i64 t)) (st := 15) (by kernel_rfl) ?_
      rw [← show wD = _ from hwD.out]
      have hS0 : (fun w' : World => w'.cell? ⟨g9, 2, none⟩ = some (.slice A1 n2 c1) ∧ w'.cell? ⟨g9, 3, none⟩ = some (.slice A3 k c3) ∧ w'.cell? ⟨bA, 0, none⟩ = some (.int .i64 f) ∧ w'.cell? ⟨bA, 1, none⟩ = some (.string lb) ∧ w'.cell? ⟨bA, 2, none⟩ = some (.int .i64 t)) wD := ⟨b2, b3, e0, e1, e2⟩
      refine lateT_take (i := 0) (oi := _) (v := ?_) [15] rfl (by kernel_rfl) (by kernel_rfl) (by kernel_rfl) (by kernel_rfl) (fun _ _ _ h => h) (Or.inl ⟨by rfl, ?hy⟩) hS0 ?_
      case hy => (intro w hSw; (try dsimp only at hSw); go_simp <;> with_reducible rfl)
      (try simp only [Act.put, List.setIfInBounds_toArray, List.set_cons_zero, List.set_cons_succ])
      refine lateT_take (i := 1) (oi := _) (v := ?_) [15] rfl (by kernel_rfl) (by kernel_rfl) (by kernel_rfl) (by kernel_rfl) (fun _ _ _ h => h) (Or.inl ⟨by rfl, ?hy⟩) hS0 ?_
      case hy => (intro w hSw; (try dsimp only at hSw); go_simp <;> with_reducible rfl)
      (try simp only [Act.put, List.setIfInBounds_toArray, List.set_cons_zero, List.set_cons_succ])
      refine lateT_take (i := 2) (oi := _) (v := ?_) [15] rfl (by kernel_rfl) (by kernel_rfl) (by kernel_rfl) (by kernel_rfl) (fun _ _ _ h => h) (Or.inl ⟨by rfl, ?hy⟩) hS0 ?_
      case hy => (intro w hSw; (try dsimp only at hSw); go_simp <;> with_reducible rfl)
      (try simp only [Act.put, List.setIfInBounds_toArray, List.set_cons_zero, List.set_cons_succ])
      refine lateT_take (i := 3) (oi := _) (v := ?_) [15] rfl (by kernel_rfl) (by kernel_rfl) (by kernel_rfl) (by kernel_rfl) (fun _ _ _ h => h) (Or.inl ⟨by rfl, ?hy⟩) hS0 ?_
      case hy => (intro w hSw; (try dsimp only at hSw); go_simp <;> with_reducible rfl)
      (try simp only [Act.put, List.setIfInBounds_toArray, List.set_cons_zero, List.set_cons_succ])
      refine lateT_take (i := 4) (oi := _) (v := ?_) [15] rfl (by kernel_rfl) (by kernel_rfl) (by kernel_rfl) (by kernel_rfl) (fun _ _ _ h => h) (Or.inl ⟨by rfl, ?hy⟩) hS0 ?_
      case hy => (intro w hSw; (try dsimp only at hSw); go_simp <;> with_reducible rfl)
      (try simp only [Act.put, List.setIfInBounds_toArray, List.set_cons_zero, List.set_cons_succ])
      refine lateT_take (i := 5) (oi := _) (v := ?_) [15] rfl (by kernel_rfl) (by kernel_rfl) (by kernel_rfl) (by kernel_rfl) (fun _ _ _ h => h) (Or.inl ⟨by rfl, ?hy⟩) hS0 ?_
      case hy => (intro w hSw; (try dsimp only at hSw); go_simp <;> with_reducible rfl)
      (try simp only [Act.put, List.setIfInBounds_toArray, List.set_cons_zero, List.set_cons_succ])
      refine lateT_take (i := 6) (oi := _) (v := ?_) [15] rfl (by kernel_rfl) (by kernel_rfl) (by kernel_rfl) (by kernel_rfl) (fun _ _ _ h => h) (Or.inl ⟨by rfl, ?hy⟩) hS0 ?_
      case hy => (intro w hSw; (try dsimp only at hSw); go_simp <;> with_reducible rfl)
      (try simp only [Act.put, List.setIfInBounds_toArray, List.set_cons_zero, List.set_cons_succ])
      refine lateT_take (i := 7) (oi := _) (v := ?_) [15] rfl (by kernel_rfl) (by kernel_rfl) (by kernel_rfl) (by kernel_rfl) (fun _ _ _ h => h) (Or.inl ⟨by rfl, ?hy⟩) hS0 ?_
      case hy => (intro w hSw; (try dsimp only at hSw); go_simp <;> with_reducible rfl)
      (try simp only [Act.put, List.setIfInBounds_toArray, List.set_cons_zero, List.set_cons_succ])
      refine lateT_take (i := 9) (oi := _) (v := ?_) [15] rfl (by kernel_rfl) (by kernel_rfl) (by kernel_rfl) (by kernel_rfl) (fun _ _ _ h => h) (Or.inl ⟨by rfl, ?hy⟩) hS0 ?_
      case hy => (intro w hSw; (try dsimp only at hSw); go_simp <;> with_reducible rfl)
      (try simp only [Act.put, List.setIfInBounds_toArray, List.set_cons_zero, List.set_cons_succ])
      refine lateT_take (i := 10) (oi := _) (v := ?_) [15] rfl (by kernel_rfl) (by kernel_rfl) (by kernel_rfl) (by kernel_rfl) (fun _ _ _ h => h) (Or.inl ⟨by rfl, ?hy⟩) hS0 ?_
      case hy => (intro w hSw; (try dsimp only at hSw); go_simp <;> with_reducible rfl)
      (try simp only [Act.put, List.setIfInBounds_toArray, List.set_cons_zero, List.set_cons_succ])
      refine lateT_step (i := 8) (by kernel_rfl) rfl (fun K hK => ?_)
      go_simp
      go_at_call 185
      refine hqI.out.mono ?_
      rintro e w6 ⟨rfl, e6⟩
      rw [e6]
      clear e6 w6
      go_wp2_with fail
      refine hK.out _ _ (fun _ => ⟨b2, b3, e0, e1, e2⟩) ?_
      clear hK K
      (try simp only [Act.put, List.setIfInBounds_toArray, List.set_cons_zero, List.set_cons_succ])
      refine lateT_step (i := 11) (by kernel_rfl) rfl (fun K hK => ?_)
      go_simp
      refine hK.out _ _ (fun _ => ⟨b2, b3, e0, e1, e2⟩) ?_
      clear hK K
      (try simp only [Act.put, List.setIfInBounds_toArray, List.set_cons_zero, List.set_cons_succ])
      refine lateT_step (i := 12) (by kernel_rfl) rfl (fun K hK => ?_)
      go_simp
      rw [← show wL = _ from hwL.out]
      refine hK.out _ _ (fun _ => ⟨a2, a3, a4, a5, a6⟩) ?_
      clear hK K
      (try simp only [Act.put, List.setIfInBounds_toArray, List.set_cons_zero, List.set_cons_succ])
      refine lateT_step (i := 13) (by kernel_rfl) rfl (fun K hK => ?_)
      refine step_appL (m := 1) (d := 1) (by rfl) (.tmp 32) (.tmp 43) (by rfl) hEe.out flat_ev (by go_simp) hOL.out (by go_simp) hlit.out hsz hza ?_
      intro A7 c7 w7 hown7 hgr7 hb7 hat7
      obtain ⟨hbx7, hL8⟩ := hLL.out.grown hgr7 hown7
      have d2 := hbx7.c2
      have d3 := hbx7.c3
      have df := hbx7.f3
      have d4 := grown_cell8 hgr7 hbL hnA a4
      have d5 := grown_cell8 hgr7 hbL hnA a5
      have d6 := grown_cell8 hgr7 hbL hnA a6
      refine hK.out _ _ (fun _ => ⟨d2, d3, d4, d5, d6⟩) ?_
      clear hK K
      (try simp only [Act.put, List.setIfInBounds_toArray, List.set_cons_zero, List.set_cons_succ])
      refine lateT_step (i := 14) (by kernel_rfl) rfl (fun K hK => ?_)
      go_simp
      refine hK.out _ _ (fun _ => ⟨d2, d3, d4, d5, d6⟩) ?_
      clear hK K
      (try simp only [Act.put, List.setIfInBounds_toArray, List.set_cons_zero, List.set_cons_succ])
      refine lateT_step (i := 15) (by kernel_rfl) rfl (fun K hK => ?_)
      go_simp
      refine hK.out _ _ (fun h => absurd rfl h) ?_
      clear hK K
      (try simp only [Act.put, List.setIfInBounds_toArray, List.set_cons_zero, List.set_cons_succ])
      refine lateT_done (by kernel_rfl) ?_ _
      have hL9 := hL8
      rw [← hes1.out] at hL9
      replace hL9 := hide hL9
      clear hL8 hown7 hgr7 hb7 hat7 hbx7
      go_wp2_with fail
      go_roundw
      case rel => exact ⟨k + 1, A7, c7, by omega, by go_num, hL9.out⟩
      case measure => simp [intOf]; omega
    · obtain rfl : k = m := by omega
      have hLm := hL.out
      rw [List.take_of_length_le (by rw [hes, List.length_map, hlB.out]; exact Nat.le_refl _)] at hLm
      have c3a := hLm.box.c3
      have hqS := hide (sortE_calls hLm.eds (by omega))
      replace hLm := hide hLm
      replace hes := hide hes
      clear hL
      go_upto_region 10 with (first | (go_at_call 132; (with_reducible refine hqS.out.mono ?_); rintro e w6 ⟨rfl, hO6, hg6⟩))
      have hL6 := hLm.out.same hg6 hO6
      have c36 := hL6.box.c3
      obtain ⟨n3, hn3⟩ : ∃ n3, n3 = (Lib.compact (sortE es)).length := ⟨_, rfl⟩
      have hqC := compactE_calls hO6 (by omega) hO6.le_cap
      rw [← hn3] at hqC
      replace hqC := hide hqC
      replace hL6 := hide hL6
      replace hn3 := hide hn3
      clear hO6 hg6 hqS c3a hLm
      go_upto_region 11 with (first | (go_at_call 228; (with_reducible refine hqC.out.mono ?_); rintro e w7 ⟨rfl, hO7, hg7⟩; obtain ⟨hbx7, hL8⟩ := hL6.out.grown hg7 hO7; have c37 := hbx7.c3; have f37 := hbx7.f3))
      obtain ⟨w8, hw8⟩ : ∃ w8, w8 = w7.setCell ⟨g9, 3, none⟩ (.slice A3 n3 c3) := ⟨_, rfl⟩
      rw [← hw8] at hL8
      have y0 := hL8.box.c0
      have y1 := hL8.box.c1
      have y2 := hL8.box.c2
      have y3 := hL8.box.c3
      have r0 := hL8.res.c0
      have r1 := hL8.res.c1
      have r2 := hL8.res.c2
      have r3 := hL8.res.c3
      have v0 := hL8.res.f0
      have v1 := hL8.res.f1
      have v2 := hL8.res.f2
      have v3 := hL8.res.f3
      rw [← show w8 = _ from hw8]
      replace hL8 := hide hL8
      replace hw8 := hide hw8
      clear c37 f37 hbx7 hO7 hg7 hqC hL6 c36
      go_wp2_with fail
      (try simp only [Exit.inBlock, Exit.then])
      refine bodyPost_ret_by (v := .agg #[.int .i64 s, .int .i64 i, .slice A1 n2 c1, .slice A3 n3 c3]) ?_ rfl ?_
      focus
        rw [results_cell1 rfl]
        go_simp
      obtain ⟨f1, f2, f3⟩ := hL8.out.done (.int .i64 s) (.int .i64 i) (.slice A1 n2 c1) (.slice A3 n3 c3) rfl
      refine ⟨A1, n2, c1, A3, n3, c3, rfl, f1, ?_, f3, hL8.out.labs.le_cap⟩
      unfold ltsEs
      rw [← hes.out]
      exact f2
end Go.Proofs.YtnhomkmfbngmgaaGreatDoor

namespace Go.Proofs.YtnhomkmfbngmgaaGreatDoor
open Go.ChangeShapes Go.WideShapes Go.ChangeAt Go.RowKit
set_option linter.unusedVariables false
set_option linter.unusedSimpArgs false

theorem cloneS_calls (A : Option Addr) (n c : Nat) (l : List ByteArray) (w : World) (lo hi : Nat) (h : SlS w lo hi A n l) (hn : n ≤ 1048576) :
    Calls Tryz.prog 131 #[.slice A n c] w fun e w' => ∃ A' c', e = .returned (.slice A' n c') ∧ Own 1 strv w' w.heap.size 9 A' n c' l ∧ Below w.heap.size w w' := by
  have hnil : ∀ (W : World) (a : Option Addr) (m d : Nat), (binOp .eql 24 (.slice a m d) (.slice none 0 0)).run Tryz.prog W = .ok (.bool a.isNone) W := fun W a m d => Lib.run_eql_slice_nil W 24 _ a m d 0 0 Tryz.underlying24
  have hE := hide elem_str
  cases A with
  | none =>
    have hn0 : n = 0 := by
      rcases Nat.eq_zero_or_pos n with h0 | h0
      · exact h0
      · obtain ⟨b, off, e, _⟩ := h.at_ h0
        cases e
    subst hn0
    have hl := List.eq_nil_of_length_eq_zero h.len
    subst hl
    go_enter Tryz.func131, Tryz.ntmps131
    go_wp2_with fail
    go_ret
    exact ⟨none, 0, rfl, Own.nil_ _ _ _, Below.refl _ _⟩
  | some a =>
    have hs := hide (h.below ((Below.refl w.heap.size w).alloc (Nat.le_refl _) (.cells #[] 9)) (.inr (Nat.le_refl _)))
    have hz : w.heap.size ≤ (w.alloc (.cells #[] 9)).heap.size := by simp
    clear h
    go_enter Tryz.func131, Tryz.ntmps131
    go_wp2_with (first | (at_builtin; (with_reducible refine wpList_app rfl (.tmp 5) (.tmp 6) rfl hE.out flat_strv rfl (Own.made w 9 (Nat.le_refl _)) rfl hs.out ?c1 hz ?_); rotate_right; intro A2 c2 w2 hown2 hgr2 hb2 _))
    case c1 => omega
    go_ret
    rw [Nat.zero_add, List.nil_append] at hown2
    exact ⟨_, _, rfl, hown2, ((Below.refl _ _).alloc (Nat.le_refl _) _).trans hb2⟩

set_option maxRecDepth 100000 in
/-- slices.Grow on nil: a row of the call's own, still empty. -/
theorem growS_calls (k : Nat) (w : World) (hk : k ≤ 8796093022208) :
    Calls Tryz.prog 235 #[.slice none 0 0, .int .i64 (k : Int)] w fun e w' => ∃ A c, e = .returned (.slice A 0 c) ∧ Own 1 strv w' w.heap.size 9 A 0 c ([] : List ByteArray) ∧ Below w.heap.size w w' := by
  rcases Nat.eq_zero_or_pos k with rfl | h0
  · go_enter Tryz.func235, Tryz.ntmps235
    go_wp2_with fail
    go_ret
    exact ⟨none, 0, rfl, Own.nil_ _ _ _, Below.refl _ _⟩
  · obtain ⟨i, hi, hz, hs, hby⟩ := info_parts info_string
    have hcut : ∀ (W : World) (A : Option Addr) (n c : Nat), (Instr.slice 24 (.slice A n c) none (some (.int .i64 0)) none).run Tryz.prog W = .ok (.slice A 0 c) W := fun W A n c => run_head elem_str A n c 0 (Nat.zero_le _) W
    have hrun := fun ty => Lib.run_append_nil_zeros (P := Tryz.prog) w 24 3 ty 9 i _ .i64 .i64 Tryz.underlying24 Tryz.underlying3 hi hz k h0 (by rw [hs]; omega) (by omega) (by rw [hby]; omega)
    have hg1 := grownCap_ge w k 0 9
    have hg2 := grownCap_le_maxLen w k 0 9 (by unfold maxLen; omega)
    generalize grownCap w k 0 9 = G at *
    unfold maxLen at hg2
    have hrun := hide hrun
    have hsz : Hid ((Builtin.zeroCells #[.string ⟨#[]⟩] k ++ Builtin.zeroCells #[.string ⟨#[]⟩] (G - k)).size = G * 1) := by show _ = _; rw [Array.size_append, size_zeroCells, size_zeroCells, ← Nat.add_mul]; show (k + (G - k)) * 1 = G * 1; congr 1; omega
    have q1 : ¬ ((k : Int) < 0) := by omega
    have q2 : (0 : Int) < (k : Int) := by omega
    clear hi hz hs hby
    go_enter Tryz.func235, Tryz.ntmps235
    go_wp2_with (first | (at_builtin; (with_reducible refine Lib.wpList_append_run _ rfl (.tmp 20) (.tmp 21) _ _ rfl _ _ rfl rfl _ _ (hrun.out _) ?_)))
    all_goals go_ret
    all_goals exact ⟨_, _, rfl, ⟨rfl, World.ownsRow_made w.drew _ _ (Nat.le_refl _) (by unfold maxLen; omega) hsz.out⟩, (Below.refl _ _).drew.alloc (Nat.le_refl _) _⟩

set_option maxRecDepth 100000 in
set_option maxHeartbeats 1600000 in
/-- slices.Concat of two. -/
theorem concatS_calls (bS : Nat) (A : Option Addr) (n c : Nat) (B : Option Addr) (m d : Nat) (l r : List ByteArray) (w : World) (lo hi lo' hi' : Nat) (c0 : w.cell? ⟨bS, 0, none⟩ = some (.slice A n c)) (c1 : w.cell? ⟨bS, 1, none⟩ = some (.slice B m d)) (hbS : bS < w.heap.size) (h : SlS w lo hi A n l) (g : SlS w lo' hi' B m r) (hn : n ≤ 1048576) (hm : m ≤ 1048576) :
    Calls Tryz.prog 155 #[.slice (some ⟨bS, 0, none⟩) 2 2] w fun e w' => ∃ A' c', e = .returned (.slice A' (n + m) c') ∧ Own 1 strv w' w.heap.size 9 A' (n + m) c' (l ++ r) ∧ Below w.heap.size w w' := by
  have hE := hide elem_str
  have hgrow := hide (growS_calls (n + m) w (by omega))
  replace h := hide h
  replace g := hide g
  go_enter Tryz.func155, Tryz.ntmps155
  go_wp2
  go_loop [3, 11] (fun s i => (i = .int .i64 ((0 : Nat) : Int) ∧ s = .int .i64 ((0 : Nat) : Int)) ∨ (i = .int .i64 ((1 : Nat) : Int) ∧ s = .int .i64 (n : Int)) ∨ (i = .int .i64 ((2 : Nat) : Int) ∧ s = .int .i64 ((n + m : Nat) : Int))) (fun _ i => 2 - (intOf i).toNat)
  case atStart => exact .inl ⟨rfl, rfl⟩
  case round =>
    rcases hrel with ⟨rfl, rfl⟩ | ⟨rfl, rfl⟩ | ⟨rfl, rfl⟩
    · clear h g hgrow
      go_wp2
      go_round
      case rel => exact .inr (.inl ⟨by go_num, by go_num⟩)
      case measure => simp [intOf]
    · clear h g hgrow
      go_wp2
      go_round
      case rel => exact .inr (.inr ⟨by go_num, by go_num⟩)
      case measure => simp [intOf]
    · go_wp2_with (go_at_call 235; refine hgrow.out.mono ?_; rintro e w1 ⟨A1, c1', rfl, hown1, hb1⟩; replace hown1 := hide hown1)
      go_loopw [6, 27] (fun v i wr => ∃ (A2 : Option Addr) (c2 : Nat), ((i = .int .i64 ((0 : Nat) : Int) ∧ v = .slice A2 0 c2 ∧ Own 1 strv wr w.heap.size 9 A2 0 c2 []) ∨ (i = .int .i64 ((1 : Nat) : Int) ∧ v = .slice A2 n c2 ∧ Own 1 strv wr w.heap.size 9 A2 n c2 l) ∨ (i = .int .i64 ((2 : Nat) : Int) ∧ v = .slice A2 (n + m) c2 ∧ Own 1 strv wr w.heap.size 9 A2 (n + m) c2 (l ++ r))) ∧ Below w.heap.size w wr) (fun _ i _ => 2 - (intOf i).toNat)
      case atStart => exact ⟨A1, c1', .inl ⟨rfl, rfl, hown1.out⟩, hb1⟩
      case round =>
        clear hown1 hb1
        obtain ⟨A2, c2, hcs, hb⟩ := hrel
        have y0 := (hb.cell (p := ⟨bS, 0, none⟩) hbS).trans c0
        have y1 := (hb.cell (p := ⟨bS, 1, none⟩) hbS).trans c1
        have hz := hb.size
        rcases hcs with ⟨rfl, rfl, ho⟩ | ⟨rfl, rfl, ho⟩ | ⟨rfl, rfl, ho⟩
        · replace ho := hide ho
          have hs := hide (h.out.below hb (.inr (Nat.le_refl _)))
          go_wp2_with (first | (at_builtin; (with_reducible refine wpList_app rfl (.tmp 31) (.tmp 32) rfl hE.out flat_strv rfl ho.out rfl hs.out ?c1 hz ?_); rotate_right; intro A5 c5 w5 hown5 hgr5 hb5 _))
          case c1 => omega
          rw [Nat.zero_add, List.nil_append] at hown5
          go_roundw
          case rel => exact ⟨A5, c5, .inr (.inl ⟨by go_num, rfl, hown5⟩), hb.trans hb5⟩
          case measure => simp [intOf]
        · replace ho := hide ho
          have hs := hide (g.out.below hb (.inr (Nat.le_refl _)))
          go_wp2_with (first | (at_builtin; (with_reducible refine wpList_app rfl (.tmp 31) (.tmp 32) rfl hE.out flat_strv rfl ho.out rfl hs.out ?c1 hz ?_); rotate_right; intro A5 c5 w5 hown5 hgr5 hb5 _))
          case c1 => omega
          go_roundw
          case rel => exact ⟨A5, c5, .inr (.inr ⟨by go_num, rfl, hown5⟩), hb.trans hb5⟩
          case measure => simp [intOf]
        · replace ho := hide ho
          replace hb := hide hb
          go_wp2
          go_ret
          exact ⟨A2, c2, rfl, ho.out, hb.out⟩

end Go.Proofs.YtnhomkmfbngmgaaGreatDoor

namespace Go.Proofs.YtnhomkmfbngmgaaGreatDoor
open Go.ChangeShapes Go.WideShapes Go.ChangeAt Go.RowKit Go.Sort Go.Lib
set_option linter.unusedVariables false
set_option linter.unusedSimpArgs false

/-- The boxes of two systems and of the result. -/
structure UniS (w wr : World) (Na ia : Nat) (A : Option Addr) (n c : Nat) (B : Option Addr) (m d : Nat) (Nb ib : Nat) (A' : Option Addr) (n' c' : Nat) (B' : Option Addr) (m' d' : Nat) : Prop where
  boxa : LtsBox wr w.heap.size (Na : Int) (ia : Int) A n c B m d
  boxb : LtsBox wr (w.heap.size + 1) (Nb : Int) (ib : Int) A' n' c' B' m' d'
  res : LtsBox wr (w.heap.size + 2) 0 0 none 0 0 none 0 0
  bel : Below w.heap.size w wr
section
variable {w wr w2 : World} {Na ia : Nat} {A : Option Addr} {n c : Nat} {B : Option Addr} {m d : Nat} {Nb ib : Nat} {A' : Option Addr} {n' c' : Nat} {B' : Option Addr} {m' d' : Nat}
theorem UniS.below (h : UniS w wr Na ia A n c B m d Nb ib A' n' c' B' m' d') {K : Nat} (hb : Below K wr w2) (hK : w.heap.size + 3 ≤ K) : UniS w w2 Na ia A n c B m d Nb ib A' n' c' B' m' d' :=
  ⟨h.boxa.below hb (by omega), h.boxb.below hb (by omega), h.res.below hb (by omega), h.bel.trans (hb.mono (by omega))⟩
theorem UniS.start (w : World) (Na ia : Nat) (A : Option Addr) (n c : Nat) (B : Option Addr) (m d : Nat) (Nb ib : Nat) (A' : Option Addr) (n' c' : Nat) (B' : Option Addr) (m' d' : Nat) :
    UniS w (((w.alloc (ltsC Na ia A n c B m d)).alloc (ltsC Nb ib A' n' c' B' m' d')).alloc (.cells #[.int .i64 0, .int .i64 0, .slice none 0 0, .slice none 0 0] 27)) Na ia A n c B m d Nb ib A' n' c' B' m' d' := by
  have z1 : (w.alloc (ltsC Na ia A n c B m d)).heap.size = w.heap.size + 1 := World.size_alloc _ _
  have z2 : ((w.alloc (ltsC Na ia A n c B m d)).alloc (ltsC Nb ib A' n' c' B' m' d')).heap.size = w.heap.size + 2 := by rw [World.size_alloc, z1]
  have b1 := (Below.refl (w.heap.size + 1) (w.alloc (ltsC Na ia A n c B m d))).alloc (by omega) (ltsC Nb ib A' n' c' B' m' d')
  have b2 := (Below.refl (w.heap.size + 2) ((w.alloc (ltsC Na ia A n c B m d)).alloc (ltsC Nb ib A' n' c' B' m' d'))).alloc (by omega) (.cells #[.int .i64 0, .int .i64 0, .slice none 0 0, .slice none 0 0] 27)
  have x1 : LtsBox (w.alloc (ltsC Na ia A n c B m d)) w.heap.size (Na : Int) (ia : Int) A n c B m d := heap_alloc_new w _
  have x2 : LtsBox ((w.alloc (ltsC Na ia A n c B m d)).alloc (ltsC Nb ib A' n' c' B' m' d')) (w.heap.size + 1) (Nb : Int) (ib : Int) A' n' c' B' m' d' := by rw [← z1]; exact heap_alloc_new _ _
  have x3 : LtsBox (((w.alloc (ltsC Na ia A n c B m d)).alloc (ltsC Nb ib A' n' c' B' m' d')).alloc (.cells #[.int .i64 0, .int .i64 0, .slice none 0 0, .slice none 0 0] 27)) (w.heap.size + 2) 0 0 none 0 0 none 0 0 := by rw [← z2]; exact heap_alloc_new _ _
  exact ⟨(x1.below b1 (by omega)).below b2 (by omega), x2.below b2 (by omega), x3, ((Below.refl w.heap.size w).alloc (Nat.le_refl _) _).trans ((b1.mono (by omega)).trans (b2.mono (by omega)))⟩
end
end Go.Proofs.YtnhomkmfbngmgaaGreatDoor

namespace Go.Proofs.YtnhomkmfbngmgaaGreatDoor
open Go.ChangeShapes Go.WideShapes Go.ChangeAt Go.RowKit
open Go.Maps (Keyed keyOf_int_mk)
set_option linter.unusedVariables false
set_option linter.unusedSimpArgs false

/-- Block b is a map of n entries that answers as f. -/
def MapN (w : World) (b n : Nat) (f : Int → Option Int) : Prop :=
  ∃ D : DataW Unit, w.ownsMap Tryz.prog 2 (plainElem Tryz.prog 2) b n D ∧ Maps.size D = n ∧ ∀ k : Int, (Lit.int .i64 k).wf = true → Maps.has D (.int .i64 k) = (f k).isSome ∧ ∀ c, f k = some c → D.atKey (.int .i64 k) (.lit (.int .i64 0)) = .lit (.int .i64 c)

theorem keyedN : Keyed Tryz.prog 2 := Go.Maps.int_keyed Tryz.underlying2
theorem owns_tightN {H : Type} {P : Program} {k : TypeId} {R : Value → Option (DataW H × List MemPlace)} {w : World} {b n : Nat} {D : DataW H} (h : w.ownsMap P k R b n D) : w.ownsMap P k R b (Maps.size D) D := by
  obtain ⟨es, clock, hb, F, hs, rfl⟩ := h
  exact ⟨es, clock, hb, F, by simp [Maps.size, length_sorted], rfl⟩

section
variable {w w' : World} {b n : Nat} {f : Int → Option Int}
theorem MapN.made (w : World) : MapN (w.alloc (.map #[] 0)) w.heap.size 0 (fun _ => none) :=
  ⟨.map [], World.ownsMap_made _ _ _ _, rfl, fun k _ => ⟨rfl, fun c h => by cases h⟩⟩
theorem MapN.lt (h : MapN w b n f) : b < w.heap.size := by obtain ⟨D, h1, _⟩ := h; exact h1.lt
theorem MapN.keep (h : MapN w b n f) (hb : w'.heap[b]? = w.heap[b]?) : MapN w' b n f := by
  obtain ⟨D, ⟨es, clock, h1, r⟩, h2⟩ := h
  exact ⟨D, ⟨es, clock, hb.trans h1, r⟩, h2⟩
theorem MapN.len (h : MapN w b n f) (ty : TypeId) : (Builtin.len_ #[299] ty #[.map (some b)]).run Tryz.prog w = .ok (.int .i64 (n : Int)) w := by
  obtain ⟨D, h1, h2, -⟩ := h
  rw [h1.len Tryz.underlying299 ty, h2]
theorem MapN.add (h : MapN w b n f) (hn : n < maxLen) {k c : Int} (hk : (Lit.int .i64 k).wf = true) (hc : (Lit.int .i64 c).wf = true) (hno : f k = none) :
    ∃ w', (Instr.mapUpdate 299 (.map (some b)) (.int .i64 k) (.int .i64 c)).run Tryz.prog w = .ok () w' ∧ MapN w' b (n + 1) (fun i => if i = k then some c else f i) ∧ w.grownBy w' (some b) := by
  obtain ⟨D, h1, hs, h2⟩ := h
  have hm := h1.isMap
  obtain ⟨w', hr, h3, h4⟩ := h1.update keyedN Tryz.underlying299 hn (keyOf_int_mk Tryz.underlying2 hk) (plainElem_int Tryz.underlying2 hc)
  have hnh : Maps.has D (.int .i64 k) = false := by rw [(h2 k hk).1, hno]; rfl
  have hsz : Maps.size (D.put (.int .i64 k) (.lit (.int .i64 c))) = n + 1 := by
    rw [Go.Maps.size_put (h1.tidy keyedN), hnh, hs]
    rfl
  refine ⟨w', hr, ⟨_, hsz ▸ owns_tightN h3, hsz, fun i hi => ?_⟩, h4⟩
  by_cases e : i = k
  · subst e
    simp only [if_true]
    refine ⟨Go.Maps.has_true_of_atKey fun z => Go.Maps.atKey_put_same hm (by trivial) _ z, fun c' hc' => ?_⟩
    cases hc'
    exact Go.Maps.atKey_put_same hm (by trivial) _ _
  · simp only [if_neg e]
    have hne : (Lit.int .i64 i) ≠ (Lit.int .i64 k) := fun h => e (by injection h)
    obtain ⟨h5, h6⟩ := h2 i hi
    refine ⟨?_, fun c' hc' => by rw [Go.Maps.atKey_put_other hne]; exact h6 c' hc'⟩
    rw [← h5]
    exact Go.Maps.has_put_other hne _
end

end Go.Proofs.YtnhomkmfbngmgaaGreatDoor
