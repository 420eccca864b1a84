/-
  Several texts in one:
  Rows of lists of numbers that grow, their handles in one block. Conditions: none.
  strong on a system of which only the edges matter; the union's edges. Conditions: sizes.
  areAlike with strong, AreBisimilar. Conditions: sizes.
  slices.DeleteFunc on a list of numbers, at a test that answers a bool. Conditions: at most 1048576 elements.
  Reachable states, by the reference and by the program. Conditions: sizes.
  A box and a clone of labels in any order; a system that grows by edges, its labels anywhere else. Conditions: none.
  A system that is copied with some of its edges: how it lies in memory while it grows. Conditions: none.
  Four lists that grow beside each other; pairs of states with the labels that lead to them. Conditions: none.
  spec.l30Differ: two monitors searched beside each other by the reference. Conditions: both are valid.
  The reference's search of two monitors ends; its trace is short and made of labels. Plain. Conditions: both are valid.
-/
import Derived.Test.YtnhomkmfbngmgaaGreatDoorBaseB
import Derived.Test.YtnhomkmfbngmgaaGreatDoorBaseD
import Derived.Test.YtnhomkmfbngmgaaGreatDoorBaseE
import Derived.Test.YtnhomkmfbngmgaaGreatDoorBaseF
import Derived.Test.YtnhomkmfbngmgaaGreatDoorBaseG
import Derived.Test.YtnhomkmfbngmgaaGreatDoorBaseH
import Derived.Lib.SliceRun
import Derived.StillTailTactics
import Derived.Deep.LoopGhost
import Derived.Deep.DeepCutAuto
import Derived.Deep.RegionHeld3
import Derived.Outline
import Derived.WalkSpells
import Derived.Laws.CopyOwn
import Derived.Laws.Bits64b
import Derived.Deep.RegionLaw
set_option linter.unusedSimpArgs false
set_option linter.unusedVariables false
namespace Go.Proofs.YtnhomkmfbngmgaaGreatDoor
open Go.ChangeShapes Go.WideShapes Go.ChangeAt Go.RowKit
set_option linter.unusedVariables false

/-- Rows of the call's own that grow, their handles in block bb. -/
structure BackM (w : World) (bb base : Nat) (R : List (Hd × List Int)) : Prop where
  outer : ∃ cur : Array Value, w.heap[bb]? = some (.cells cur 32 (0, 0)) ∧ cur.size = R.length ∧ ∀ (i : Nat) (r : Hd × List Int), R[i]? = some r → cur[i]? = some (.slice r.1.1 r.1.2.1 r.1.2.2)
  rows : ∀ (i : Nat) (r : Hd × List Int), R[i]? = some r → Own 1 iv w base 2 r.1.1 r.1.2.1 r.1.2.2 r.2
  apart : ∀ (i i' : Nat) (r r' : Hd × List Int), i ≠ i' → R[i]? = some r → R[i']? = some r' → (Value.slice r.1.1 r.1.2.1 r.1.2.2).ownBlock = none ∨ (Value.slice r.1.1 r.1.2.1 r.1.2.2).ownBlock ≠ (Value.slice r'.1.1 r'.1.2.1 r'.1.2.2).ownBlock

section
variable {w w' : World} {bb base : Nat} {R : List (Hd × List Int)}
theorem BackM.keep (h : BackM w bb base R) (hb : w'.heap[bb]? = w.heap[bb]?) (hk : ∀ b, base ≤ b → b < w.heap.size → w'.heap[b]? = w.heap[b]?) : BackM w' bb base R := by
  obtain ⟨cur, h1, h2⟩ := h.outer
  exact ⟨⟨cur, hb.trans h1, h2⟩, fun i r hr => (h.rows i r hr).keep fun g hg => hk g ((h.rows i r hr).lt g hg).1 ((h.rows i r hr).lt g hg).2, h.apart⟩
theorem BackM.lt (h : BackM w bb base R) : bb < w.heap.size := by obtain ⟨cur, h1, _⟩ := h.outer; exact (Array.getElem?_eq_some_iff.1 h1).1
theorem BackM.alloc (h : BackM w bb base R) (o : Obj) : BackM (w.alloc o) bb base R := h.keep (Below.heap_alloc _ _ _ h.lt) fun b _ hb => Below.heap_alloc _ _ _ hb
theorem BackM.cell (h : BackM w bb base R) {i : Nat} {r : Hd × List Int} (hr : R[i]? = some r) : w.cell? ⟨bb, i, none⟩ = some (.slice r.1.1 r.1.2.1 r.1.2.2) ∧ w.frozen? ⟨bb, i, none⟩ = false := by
  obtain ⟨cur, h1, h2, h3⟩ := h.outer
  exact ⟨(cell_of_row w bb i cur _ (0, 0) h1).trans (h3 i r hr), frozen_of_row w bb i cur _ h1⟩
/-- One row grew. -/
theorem BackM.push (h : BackM w bb base R) (hbb : bb < base) (hbase : base ≤ w.heap.size) {i : Nat} {r : Hd × List Int} (hr : R[i]? = some r) {A' : Option Addr} {n' c' : Nat} {s' : List Int} (ho : Own 1 iv w' base 2 A' n' c' s') (hg : w.grownBy w' (Value.slice r.1.1 r.1.2.1 r.1.2.2).ownBlock)
    (hat : (Value.slice A' n' c').ownBlock = (Value.slice r.1.1 r.1.2.1 r.1.2.2).ownBlock ∨ (Value.slice A' n' c').ownBlock = some w.heap.size) :
    BackM (w'.setCell ⟨bb, i, none⟩ (.slice A' n' c')) bb base (R.set i ((A', n', c'), s')) := by
  have hi : i < R.length := (List.getElem?_eq_some_iff.1 hr).1
  obtain ⟨cur, h1, h2, h3⟩ := h.outer
  have hne : ∀ b, b < base → some b ≠ (Value.slice r.1.1 r.1.2.1 r.1.2.2).ownBlock := fun b hb e => by
    have := ((h.rows i r hr).lt b e.symm).1
    omega
  have hkeep : ∀ g, base ≤ g → (w'.setCell ⟨bb, i, none⟩ (.slice A' n' c')).heap[g]? = w'.heap[g]? := fun g hg => Below.heap_setCell _ _ _ _ (by show g ≠ bb; omega)
  have key : ∀ i' r', i ≠ i' → R[i']? = some r' → Own 1 iv w' base 2 r'.1.1 r'.1.2.1 r'.1.2.2 r'.2 := fun i' r' hii hr' => (h.rows i' r' hr').kept hg (h.apart i' i r' r (Ne.symm hii) hr' hr)
  have keyA : ∀ i' r', i ≠ i' → R[i']? = some r' → (Value.slice r'.1.1 r'.1.2.1 r'.1.2.2).ownBlock = none ∨ (Value.slice r'.1.1 r'.1.2.1 r'.1.2.2).ownBlock ≠ (Value.slice A' n' c').ownBlock := fun i' r' hii hr' => by
    rcases hat with e | e
    · rw [e]; exact h.apart i' i r' r (Ne.symm hii) hr' hr
    · rw [e]
      cases e2 : (Value.slice r'.1.1 r'.1.2.1 r'.1.2.2).ownBlock with
      | none => exact .inl rfl
      | some b =>
        right
        intro e3
        injection e3 with e3
        have := ((h.rows i' r' hr').lt b e2).2
        omega
  refine ⟨⟨cur.setIfInBounds i (.slice A' n' c'), heap_setCell_same w' bb i cur _ _ ((hg.block bb h.lt (hne bb hbb)).trans h1), by simp [h2], fun i' r' hr' => ?_⟩, fun i' r' hr' => ?_, fun i1 i2 r1 r2 hii hr1 hr2 => ?_⟩
  · by_cases e : i = i'
    · subst e
      rw [List.getElem?_set_self hi] at hr'
      cases hr'
      simp [Array.getElem?_setIfInBounds]
      omega
    · rw [List.getElem?_set_ne e] at hr'
      rw [Array.getElem?_setIfInBounds_ne e]
      exact h3 i' r' hr'
  · by_cases e : i = i'
    · subst e
      rw [List.getElem?_set_self hi] at hr'
      cases hr'
      exact ho.keep fun g hgg => hkeep g (ho.lt g hgg).1
    · rw [List.getElem?_set_ne e] at hr'
      have hk := key i' r' e hr'
      exact hk.keep fun g hgg => hkeep g (hk.lt g hgg).1
  · by_cases e1 : i = i1
    · subst e1
      rw [List.getElem?_set_self hi] at hr1
      cases hr1
      rw [List.getElem?_set_ne hii] at hr2
      rcases keyA i2 r2 hii hr2 with h4 | h4
      · rw [h4]
        cases e2 : (Value.slice A' n' c').ownBlock with
        | none => exact .inl rfl
        | some b => right; simp
      · exact .inr (Ne.symm h4)
    · rw [List.getElem?_set_ne e1] at hr1
      by_cases e2 : i = i2
      · subst e2
        rw [List.getElem?_set_self hi] at hr2
        cases hr2
        exact keyA i1 r1 e1 hr1
      · rw [List.getElem?_set_ne e2] at hr2
        exact h.apart i1 i2 r1 r2 hii hr1 hr2
end


/-- The rows hold what f says. -/
def RowsAre (R : List (Hd × List Int)) (N : Nat) (f : Nat → List Int) : Prop := R.length = N ∧ ∀ (j : Nat) (r : Hd × List Int), R[j]? = some r → r.2 = f j
theorem RowsAre.set {R : List (Hd × List Int)} {N : Nat} {f g : Nat → List Int} (h : RowsAre R N f) {i : Nat} {x : Hd × List Int} (hi : i < N) (hx : x.2 = g i) (hg : ∀ j, j ≠ i → j < N → g j = f j) : RowsAre (R.set i x) N g := by
  refine ⟨by rw [List.length_set]; exact h.1, fun j r hr => ?_⟩
  by_cases e : i = j
  · subst e
    rw [List.getElem?_set_self (by rw [h.1]; exact hi)] at hr
    cases hr
    exact hx
  · rw [List.getElem?_set_ne e] at hr
    rw [h.2 j r hr]
    have := (List.getElem?_eq_some_iff.1 hr).1
    rw [h.1] at this
    exact (hg j (fun e2 => e e2.symm) this).symm
theorem RowsAre.map {R : List (Hd × List Int)} {N : Nat} {f : Nat → List Int} (h : RowsAre R N f) : R.map (·.2) = (List.range N).map f := by
  apply List.ext_getElem (by simp [h.1])
  intro j h1 h2
  rw [List.getElem_map, List.getElem_map, List.getElem_range]
  have hj : j < R.length := by simpa using h1
  exact h.2 j _ (List.getElem?_eq_getElem hj)
section
variable {w w' : World} {bb base N : Nat} {R : List (Hd × List Int)}
theorem BackM.made (w : World) (n : Nat) : BackM (w.alloc (.cells (madeCells #[.slice none 0 0] n) 32)) w.heap.size (w.heap.size + 1) (List.replicate n ((none, 0, 0), [])) := by
  have hg := heap_alloc_new w (.cells (madeCells #[.slice none 0 0] n) 32)
  have hr : ∀ (i : Nat) (r : Hd × List Int), (List.replicate n (((none, 0, 0), []) : Hd × List Int))[i]? = some r → i < n ∧ r = ((none, 0, 0), []) := fun i r hr => by
    have h1 := (List.getElem?_eq_some_iff.1 hr).1
    rw [List.length_replicate] at h1
    rw [List.getElem?_replicate, if_pos h1] at hr
    exact ⟨h1, (Option.some.inj hr).symm⟩
  refine ⟨⟨_, hg, by simp [madeCells], fun i r h => ?_⟩, fun i r h => ?_, fun i i' r r' _ h _ => ?_⟩
  · obtain ⟨h1, rfl⟩ := hr i r h
    simp [madeCells, h1, Nat.mod_one]
  · obtain ⟨h1, rfl⟩ := hr i r h
    exact Own.nil_ _ _ _
  · obtain ⟨h1, rfl⟩ := hr i r h
    exact .inl rfl
theorem BackM.below (h : BackM w bb base R) (hb : Below w.heap.size w w') : BackM w' bb base R := h.keep (hb.block bb h.lt) fun b _ h2 => hb.block b h2
end
end Go.Proofs.YtnhomkmfbngmgaaGreatDoor

namespace Go.Proofs.YtnhomkmfbngmgaaGreatDoor
open Go.ChangeShapes Go.WideShapes Go.ChangeAt Go.RowKit Go.Sort Go.Lib
set_option linter.unusedVariables false
set_option linter.unusedSimpArgs false

/-- What strong needs of a system. -/
structure SysE (w : World) (N : Nat) (B : Option Addr) (m : Nat) (es : List Ed) : Prop where
  se : SlE w 0 w.heap.size B m es
  sz : m ≤ 100000
  one : 1 ≤ N
  few : N ≤ 80
  ins : EdIn N es
  labs : ∀ e, e ∈ es → e.2.1 ≤ 1000
section
variable {w w' : World} {N ini : Nat} {A : Option Addr} {n : Nat} {B : Option Addr} {m : Nat} {es : List Ed}
theorem SysE.below {K : Nat} (h : SysE w N B m es) (hb : Below K w w') (hK : w.heap.size ≤ K) : SysE w' N B m es :=
  ⟨(h.se.below hb (.inr hK)).here', h.sz, h.one, h.few, h.ins, h.labs⟩
end
theorem joiF_len (ls : List ByteArray) : (joiF ls).length ≤ ls.length + 1 := by
  unfold joiF
  rw [List.length_map]
  refine Nat.le_trans (Go.Lib.compact_length_le _) ?_
  rw [List.length_mergeSort, List.length_map, List.length_cons]
  exact Nat.le_refl _
end Go.Proofs.YtnhomkmfbngmgaaGreatDoor

namespace Go.Proofs.YtnhomkmfbngmgaaGreatDoor
open Go.ChangeShapes Go.WideShapes Go.ChangeAt Go.RowKit Go.Sort Go.Lib
set_option linter.unusedVariables false
set_option linter.unusedSimpArgs false

/-- The boxes of two systems. -/
structure TwoS (w wr : World) (Na ia : Nat) (A : Option Addr) (n c : Nat) (B : Option Addr) (m d : Nat) (Nb ib : Nat) (A' : Option Addr) (n' c' : Nat) (B' : Option Addr) (m' d' : Nat) : Prop where
  boxa : LtsBox wr w.heap.size (Na : Int) (ia : Int) A n c B m d
  boxb : LtsBox wr (w.heap.size + 1) (Nb : Int) (ib : Int) A' n' c' B' m' d'
  bel : Below w.heap.size w wr
def TwoC (w w' : World) (Na ia : Nat) (A : Option Addr) (n c : Nat) (B : Option Addr) (m d : Nat) (Nb ib : Nat) (A' : Option Addr) (n' c' : Nat) (B' : Option Addr) (m' d' : Nat) : Prop :=
  w'.cell? ⟨w.heap.size, 0, none⟩ = some (.int .i64 (Na : Int)) ∧ w'.cell? ⟨w.heap.size, 1, none⟩ = some (.int .i64 (ia : Int)) ∧ w'.cell? ⟨w.heap.size, 2, none⟩ = some (.slice A n c) ∧ w'.cell? ⟨w.heap.size, 3, none⟩ = some (.slice B m d) ∧
  w'.cell? ⟨w.heap.size + 1, 0, none⟩ = some (.int .i64 (Nb : Int)) ∧ w'.cell? ⟨w.heap.size + 1, 1, none⟩ = some (.int .i64 (ib : Int)) ∧ w'.cell? ⟨w.heap.size + 1, 2, none⟩ = some (.slice A' n' c') ∧ w'.cell? ⟨w.heap.size + 1, 3, none⟩ = some (.slice B' m' d')
section
variable {w wr w2 : World} {Na ia : Nat} {A : Option Addr} {n c : Nat} {B : Option Addr} {m d : Nat} {Nb ib : Nat} {A' : Option Addr} {n' c' : Nat} {B' : Option Addr} {m' d' : Nat}
theorem TwoS.below (h : TwoS w wr Na ia A n c B m d Nb ib A' n' c' B' m' d') {K : Nat} (hb : Below K wr w2) (hK : wr.heap.size ≤ K) : TwoS w w2 Na ia A n c B m d Nb ib A' n' c' B' m' d' := by
  have := h.boxa.lt
  have := h.boxb.lt
  exact ⟨h.boxa.below hb (by omega), h.boxb.below hb (by omega), h.bel.trans (hb.mono (by omega))⟩
theorem TwoS.cells (h : TwoS w wr Na ia A n c B m d Nb ib A' n' c' B' m' d') : TwoC w wr Na ia A n c B m d Nb ib A' n' c' B' m' d' :=
  ⟨h.boxa.c0, h.boxa.c1, h.boxa.c2, h.boxa.c3, h.boxb.c0, h.boxb.c1, h.boxb.c2, h.boxb.c3⟩
theorem TwoS.start (w : World) (Na ia : Nat) (A : Option Addr) (n c : Nat) (B : Option Addr) (m d : Nat) (Nb ib : Nat) (A' : Option Addr) (n' c' : Nat) (B' : Option Addr) (m' d' : Nat) :
    TwoS w ((w.alloc (ltsC Na ia A n c B m d)).alloc (ltsC Nb ib A' n' c' B' m' d')) Na ia A n c B m d Nb ib A' n' c' B' m' d' := by
  have z1 : (w.alloc (ltsC Na ia A n c B m d)).heap.size = w.heap.size + 1 := World.size_alloc _ _
  have b1 := (Below.refl (w.heap.size + 1) (w.alloc (ltsC Na ia A n c B m d))).alloc (by omega) (ltsC Nb ib A' n' c' B' m' d')
  have x1 : LtsBox (w.alloc (ltsC Na ia A n c B m d)) w.heap.size (Na : Int) (ia : Int) A n c B m d := heap_alloc_new w _
  have x2 : LtsBox ((w.alloc (ltsC Na ia A n c B m d)).alloc (ltsC Nb ib A' n' c' B' m' d')) (w.heap.size + 1) (Nb : Int) (ib : Int) A' n' c' B' m' d' := by rw [← z1]; exact heap_alloc_new _ _
  exact ⟨x1.below b1 (by omega), x2, ((Below.refl w.heap.size w).alloc (Nat.le_refl _) _).trans (b1.mono (by omega))⟩
end
section
variable {w : World} {Na ia : Nat} {A : Option Addr} {n : Nat} {B : Option Addr} {m : Nat} {la : List ByteArray} {ea : List Ed} {Nb ib : Nat} {A' : Option Addr} {n' : Nat} {B' : Option Addr} {m' : Nat} {lb : List ByteArray} {eb : List Ed}
end
end Go.Proofs.YtnhomkmfbngmgaaGreatDoor

namespace Go.Proofs.YtnhomkmfbngmgaaGreatDoor
open Go.ChangeShapes Go.WideShapes Go.ChangeAt Go.RowKit
set_option linter.unusedVariables false

theorem filter_step {q : Int → Bool} {l : List Int} {k : Nat} {x : Int} (hx : l[k]? = some x) : (l.take (k + 1)).filter q = (l.take k).filter q ++ if q x then [x] else [] := by
  rw [List.take_add_one, hx, List.filter_append]
  cases h : q x <;> simp [h]

/-- Where the loop of DeleteFunc stands: what was kept lies at the front, the rest is as it was. -/
structure DelI (G : Int → Bool) (l M : List Int) (k i : Nat) : Prop where
  len : M.length = l.length
  cnt : i = ((l.take k).filter fun x => !G x).length
  lt : i < k
  kept : M.take i = (l.take k).filter fun x => !G x
  later : ∀ q, k ≤ q → M[q]? = l[q]?
theorem DelI.start {G : Int → Bool} {l : List Int} {k : Nat} {x : Int} (hk : k < l.length) (ha : (l.take k).any G = false) (hx : l[k]? = some x) (hg : G x = true) : DelI G l l (k + 1) k := by
  have h1 : (l.take (k + 1)).filter (fun x => !G x) = l.take k := by
    rw [filter_step hx, hg]
    simp only [Bool.not_true, Bool.false_eq_true, if_false, List.append_nil]
    exact List.filter_eq_self.2 fun y hy => by rw [Bool.not_eq_true']; exact Bool.eq_false_iff.2 fun c => by rw [List.any_eq_false] at ha; exact ha y hy c
  exact ⟨rfl, by rw [h1, List.length_take]; omega, Nat.lt_succ_self _, by rw [h1], fun _ _ => rfl⟩
theorem DelI.skip {G : Int → Bool} {l M : List Int} {k i : Nat} {x : Int} (h : DelI G l M k i) (hx : l[k]? = some x) (hg : G x = true) : DelI G l M (k + 1) i := by
  have h1 : (l.take (k + 1)).filter (fun x => !G x) = (l.take k).filter (fun x => !G x) := by rw [filter_step hx, hg]; simp
  exact ⟨h.len, by rw [h1]; exact h.cnt, by have := h.lt; omega, by rw [h1]; exact h.kept, fun q hq => h.later q (by omega)⟩
theorem DelI.put {G : Int → Bool} {l M : List Int} {k i : Nat} {x : Int} (h : DelI G l M k i) (hx : l[k]? = some x) (hg : G x = false) : DelI G l (M.set i x) (k + 1) (i + 1) := by
  have h1 : (l.take (k + 1)).filter (fun x => !G x) = (l.take k).filter (fun x => !G x) ++ [x] := by rw [filter_step hx, hg]; simp
  have hk : k < l.length := (List.getElem?_eq_some_iff.1 hx).1
  have hil : i < M.length := by rw [h.len]; have := h.lt; omega
  refine ⟨by rw [List.length_set]; exact h.len, by rw [h1, List.length_append, ← h.cnt]; rfl, by have := h.lt; omega, ?_, fun q hq => ?_⟩
  · rw [List.take_add_one, List.getElem?_set_self hil, h1, ← h.kept, List.take_set_of_le (Nat.le_refl _)]
    rfl
  · rw [List.getElem?_set_ne (by have := h.lt; omega)]
    exact h.later q (by omega)

end Go.Proofs.YtnhomkmfbngmgaaGreatDoor

namespace Go.Proofs.YtnhomkmfbngmgaaGreatDoor
open Go.ChangeShapes Go.WideShapes Go.ChangeAt Go.RowKit Go.Sort
set_option linter.unusedVariables false
set_option linter.unusedSimpArgs false

/-- How many are in a set. -/
def numBR (s : List Bool) : Nat := (s.filter id).length
/-- State k is reached. -/
def ReachE (es : List Ed) (ini : Int) (k : Nat) : Prop := ∃ m, lay (srcE [ini]) (arcE true es) m k
theorem ReachE.step {es : List Ed} {ini : Int} {a k : Nat} (h : ReachE es ini a) (ha : arcE true es a k) : ReachE es ini k := by
  obtain ⟨m, hm⟩ := h
  exact ⟨m + 1, .inr ⟨a, hm, ha⟩⟩
/-- In a round of the reference's search: what is marked is reached; the edges looked at lead from marked states to marked ones, if nothing was marked in this round. -/
structure SeenR (N : Nat) (es : List Ed) (ini : Nat) (old : List Bool) (j : Nat) (mo : Bool) (s : List Bool) : Prop where
  len : s.length = N
  start : inS s ini = true
  sound : ∀ k, inS s k = true → ReachE es (ini : Int) k
  same : mo = false → s = old
  more : mo = true → numBR old < numBR s
  grow : numBR old ≤ numBR s
  closed : mo = false → ∀ e ∈ es.take j, ∀ a k : Nat, e.1 = (a : Int) → e.2.2 = (k : Int) → inS s a = true → inS s k = true

theorem take_mem_succ {α : Type} {l : List α} {j : Nat} {e x : α} (hx : l[j]? = some e) (h : x ∈ l.take (j + 1)) : x ∈ l.take j ∨ x = e := by
  rw [List.take_add_one, hx, List.mem_append] at h
  rcases h with h | h
  · exact .inl h
  · simp at h; exact .inr h
theorem SeenR.skip {N : Nat} {es : List Ed} {ini : Nat} {old s : List Bool} {j : Nat} {mo : Bool} {f tg : Nat} {lb : Int} (h : SeenR N es ini old j mo s) (hx : es[j]? = some ((f : Int), lb, (tg : Int))) (hs : inS s f = true → inS s tg = true) : SeenR N es ini old (j + 1) mo s :=
  ⟨h.len, h.start, h.sound, h.same, h.more, h.grow, fun hm e he a k h1 h2 h3 => by
    rcases take_mem_succ hx he with h4 | rfl
    · exact h.closed hm e h4 a k h1 h2 h3
    · have : f = a := by dsimp only at h1; omega
      have : tg = k := by dsimp only at h2; omega
      subst_vars
      exact hs h3⟩
end Go.Proofs.YtnhomkmfbngmgaaGreatDoor

namespace Go.Proofs.YtnhomkmfbngmgaaGreatDoor
open Go.ChangeShapes Go.WideShapes Go.ChangeAt Go.RowKit Go.Sort Go.Lib
set_option linter.unusedVariables false
set_option linter.unusedSimpArgs false

/-- Between a base and now: a box may have been made, labels may have been cloned. -/
structure AlcW (wb w : World) (J : List ByteArray) (g : Option Nat) (q : Option (Option Addr × Nat × Nat)) : Prop where
  below : Below wb.heap.size wb w
  box : ∀ b, g = some b → wb.heap.size ≤ b ∧ LtsBox w b 0 0 none 0 0 none 0 0
  lab : ∀ h, q = some h → Own 1 strv w wb.heap.size 9 h.1 h.2.1 h.2.2 J ∧ ∀ b, g = some b → some b ≠ (Value.slice h.1 h.2.1 h.2.2).ownBlock
section
variable {wb w w' : World} {J : List ByteArray} {g : Option Nat} {q : Option (Option Addr × Nat × Nat)}
theorem AlcW.start (wb : World) (J : List ByteArray) : AlcW wb wb J none none := ⟨Below.refl _ _, fun b e => (by cases e), fun h e => (by cases e)⟩
theorem AlcW.drew (h : AlcW wb w J g q) : AlcW wb w.drew J g q := ⟨h.below.drew, h.box, fun k e => ⟨(h.lab k e).1.keep fun _ _ => rfl, (h.lab k e).2⟩⟩
theorem AlcW.alloc (h : AlcW wb w J none q) : AlcW wb (w.alloc (.cells #[.int .i64 0, .int .i64 0, .slice none 0 0, .slice none 0 0] 27)) J (some w.heap.size) q where
  below := h.below.alloc h.below.size _
  box := fun b e => by
    cases e
    exact ⟨h.below.size, heap_alloc_new w _⟩
  lab := fun k e => ⟨(h.lab k e).1.alloc _, fun b e2 e3 => by
    cases e2
    have := ((h.lab k e).1.lt _ e3.symm).2
    omega⟩
theorem AlcW.keep (h : AlcW wb w J g q) (hb : Below w.heap.size w w') : AlcW wb w' J g q where
  below := h.below.trans (hb.mono h.below.size)
  box := fun b e => ⟨(h.box b e).1, (h.box b e).2.below hb (h.box b e).2.lt⟩
  lab := fun k e => ⟨(h.lab k e).1.below hb (Nat.le_refl _), (h.lab k e).2⟩
end
/-- A system that grows by edges; e0: where its edges' row lies at least. -/
structure LtmP (w wr : World) (g9 e0 : Nat) (s i : Int) (A1 : Option Addr) (n2 c1 : Nat) (J : List ByteArray) (A3 : Option Addr) (k c3 : Nat) (E : List Ed) : Prop where
  box : LtsBox wr g9 s i A1 n2 c1 A3 k c3
  res : LtsBox wr w.heap.size 0 0 none 0 0 none 0 0
  labs : Own 1 strv wr (w.heap.size + 1) 9 A1 n2 c1 J
  eds : Own 3 ev wr e0 84 A3 k c3 E
  bel : Below w.heap.size w wr
  base : w.heap.size < g9 ∧ g9 < e0
  lt : ∀ q, (Value.slice A1 n2 c1).ownBlock = some q → q ≠ g9 ∧ q < e0
  top : e0 ≤ wr.heap.size
section
variable {w wr w' : World} {g9 e0 : Nat} {s i : Int} {A1 : Option Addr} {n2 c1 : Nat} {J : List ByteArray} {A3 : Option Addr} {k c3 : Nat} {E : List Ed}
theorem LtmP.below (h : LtmP w wr g9 e0 s i A1 n2 c1 J A3 k c3 E) (hb : Below wr.heap.size wr w') : LtmP w w' g9 e0 s i A1 n2 c1 J A3 k c3 E where
  box := h.box.below hb h.box.lt
  res := h.res.below hb h.res.lt
  labs := h.labs.below hb (Nat.le_refl _)
  eds := h.eds.below hb (Nat.le_refl _)
  bel := h.bel.trans (hb.mono h.bel.size)
  base := h.base
  lt := h.lt
  top := Nat.le_trans h.top hb.size
theorem LtmP.same (h : LtmP w wr g9 e0 s i A1 n2 c1 J A3 k c3 E) {E' : List Ed} (hg : wr.grownBy w' (Value.slice A3 k c3).ownBlock) (ho : Own 3 ev w' e0 84 A3 k c3 E') : LtmP w w' g9 e0 s i A1 n2 c1 J A3 k c3 E' := by
  have hb0 := h.base
  have ha : ∀ q, q < e0 → some q ≠ (Value.slice A3 k c3).ownBlock := fun q hq e => by
    have := (h.eds.lt q e.symm).1
    omega
  exact ⟨h.box.grown hg (ha _ (by omega)), h.res.grown hg (ha _ (by omega)), h.labs.keep fun q hq => hg.block q (h.labs.lt q hq).2 (ha q (h.lt q hq).2), ho, h.bel.grown hg h.bel.size fun q e => by have := (h.eds.lt q e).1; omega, hb0, h.lt, Nat.le_trans h.top hg.size⟩
theorem LtmP.grown (h : LtmP w wr g9 e0 s i A1 n2 c1 J A3 k c3 E) {A7 : Option Addr} {k7 c7 : Nat} {E' : List Ed} (hg : wr.grownBy w' (Value.slice A3 k c3).ownBlock) (ho : Own 3 ev w' e0 84 A7 k7 c7 E') : LtsBox w' g9 s i A1 n2 c1 A3 k c3 ∧ LtmP w (w'.setCell ⟨g9, 3, none⟩ (.slice A7 k7 c7)) g9 e0 s i A1 n2 c1 J A7 k7 c7 E' := by
  have hb0 := h.base
  have ha : ∀ q, q < e0 → some q ≠ (Value.slice A3 k c3).ownBlock := fun q hq e => by
    have := (h.eds.lt q e.symm).1
    omega
  have hbx := h.box.grown hg (ha _ (by omega))
  have hrs := h.res.grown hg (ha _ (by omega))
  have hO : Only g9 (g9 + 1) w' (w'.setCell ⟨g9, 3, none⟩ (.slice A7 k7 c7)) := (Only.refl g9 (g9 + 1) w').setCell (p := ⟨g9, 3, none⟩) (Nat.le_refl _) (Nat.lt_succ_self _) _
  have hbel : Below w.heap.size w w' := h.bel.grown hg h.bel.size fun q e => by have := (h.eds.lt q e).1; omega
  refine ⟨hbx, hbx.set3, hrs.only hO (.inl (by omega)), ?_, ?_, Only.below hbel hO (by omega) hbel.size, hb0, h.lt, by rw [World.size_setCell]; exact Nat.le_trans h.top hg.size⟩
  · have hl : Own 1 strv w' (w.heap.size + 1) 9 A1 n2 c1 J := h.labs.keep fun q hq => hg.block q (h.labs.lt q hq).2 (ha q (h.lt q hq).2)
    exact hl.asideL (fun e => (h.lt _ e.symm).1 rfl) _
  · exact ho.asideL (fun e => by have := (ho.lt _ e.symm).1; omega) _
theorem LtmP.done (h : LtmP w wr g9 e0 s i A1 n2 c1 J A3 k c3 E) {wf : World} (a b c d : Value)
    (hw : wf = (((wr.setCell ⟨w.heap.size, 0, none⟩ a).setCell ⟨w.heap.size, 1, none⟩ b).setCell ⟨w.heap.size, 2, none⟩ c).setCell ⟨w.heap.size, 3, none⟩ d) :
    SlS wf w.heap.size wf.heap.size A1 n2 J ∧ Own 3 ev wf w.heap.size 84 A3 k c3 E ∧ Below w.heap.size w wf := by
  have hb0 := h.base
  have n1 : some w.heap.size ≠ (Value.slice A1 n2 c1).ownBlock := fun e => by have := (h.labs.lt _ e.symm).1; omega
  have n3 : some w.heap.size ≠ (Value.slice A3 k c3).ownBlock := fun e => by have := (h.eds.lt _ e.symm).1; omega
  have o1 := (Only.refl w.heap.size (w.heap.size + 1) wr).setCell (p := ⟨w.heap.size, 0, none⟩) (Nat.le_refl _) (Nat.lt_succ_self _) a
  have o2 := o1.setCell (p := ⟨w.heap.size, 1, none⟩) (Nat.le_refl _) (Nat.lt_succ_self _) b
  have o3 := o2.setCell (p := ⟨w.heap.size, 2, none⟩) (Nat.le_refl _) (Nat.lt_succ_self _) c
  have o4 := o3.setCell (p := ⟨w.heap.size, 3, none⟩) (Nat.le_refl _) (Nat.lt_succ_self _) d
  rw [hw]
  refine ⟨?_, ?_, Only.below h.bel o4 (Nat.le_refl _) h.bel.size⟩
  · exact (((((h.labs.asideL n1 _).asideL n1 _).asideL n1 _).asideL n1 _).sl flat_strv).more (by omega) (Nat.le_refl _)
  · exact (((((h.eds.asideL n3 _).asideL n3 _).asideL n3 _).asideL n3 _)).sink (by omega)
/-- The box filled: a system without edges. -/
theorem AlcW.fill {wb w1 : World} {A : Option Addr} {n c g : Nat} (h : AlcW wb w1 J (some g) (some (A, n, c))) (hr : LtsBox wb w.heap.size 0 0 none 0 0 none 0 0) (hw : w.heap.size + 1 ≤ wb.heap.size) (hbel : Below w.heap.size w wb) (s i : Int) {e0 : Nat} (he0 : e0 = w1.heap.size) :
    LtmP w ((((w1.setCell ⟨g, 0, none⟩ (.int .i64 s)).setCell ⟨g, 1, none⟩ (.int .i64 i)).setCell ⟨g, 2, none⟩ (.slice A n c)).setCell ⟨g, 3, none⟩ (.slice none 0 0)) g e0 s i A n c J none 0 0 [] := by
  obtain ⟨hg, hx⟩ := h.box g rfl
  obtain ⟨hl, hne⟩ := h.lab _ rfl
  have hne := hne g rfl
  have hgl := hx.lt
  have x0 : (w1.setCell ⟨g, 0, none⟩ (.int .i64 s)).heap[g]? = _ := heap_setCell_same w1 g 0 _ _ _ hx
  have x1 := heap_setCell_same _ g 1 _ _ (.int .i64 i) x0
  have x2 := heap_setCell_same _ g 2 _ _ (.slice A n c) x1
  have x3 := heap_setCell_same _ g 3 _ _ (.slice none 0 0) x2
  have o1 := (Only.refl g (g + 1) w1).setCell (p := ⟨g, 0, none⟩) (Nat.le_refl _) (Nat.lt_succ_self _) (.int .i64 s)
  have o2 := o1.setCell (p := ⟨g, 1, none⟩) (Nat.le_refl _) (Nat.lt_succ_self _) (.int .i64 i)
  have o3 := o2.setCell (p := ⟨g, 2, none⟩) (Nat.le_refl _) (Nat.lt_succ_self _) (.slice A n c)
  have o4 := o3.setCell (p := ⟨g, 3, none⟩) (Nat.le_refl _) (Nat.lt_succ_self _) (.slice none 0 0)
  have hbw : Below w.heap.size w w1 := hbel.trans (h.below.mono (by omega))
  exact ⟨x3, (hr.below h.below (by omega)).only o4 (.inl (by omega)), ((((hl.asideL hne _).asideL hne _).asideL hne _).asideL hne _).sink (by omega), Own.nil_ _ _ _, Only.below hbw o4 (by omega) hbw.size, ⟨by omega, by omega⟩, fun q hq => ⟨fun e => hne (by rw [← e]; exact hq.symm), by have := (hl.lt q hq).2; omega⟩, by simp [he0]⟩
end
end Go.Proofs.YtnhomkmfbngmgaaGreatDoor

namespace Go.Proofs.YtnhomkmfbngmgaaGreatDoor
open Go.ChangeShapes Go.WideShapes Go.ChangeAt Go.RowKit Go.Sort Go.Lib
set_option linter.unusedVariables false
set_option linter.unusedSimpArgs false

section
variable {α : Type} {size : Nat} {f : α → List Value} {w w' : World} {base n c : Nat} {e : TypeId} {A : Option Addr} {l : List α}
theorem Own.typedK (h : Own size f w base e A n c l) {g : Nat} (hg : (Value.slice A n c).ownBlock = some g) : base ≤ g ∧ g < w.heap.size ∧ ∃ cur, w.heap[g]? = some (.cells cur e (0, 0)) := by
  refine ⟨(h.lt g hg).1, (h.lt g hg).2, ?_⟩
  rcases h.2.2 with ⟨hv, _⟩ | ⟨b, cap, cur, hv, _, hb, _⟩
  · rw [hv] at hg; cases hg
  · rw [hv] at hg
    obtain rfl : b = g := by injection hg
    exact ⟨cur, hb⟩
theorem Own.otherK (h : Own size f w base e A n c l) {b : Nat} {cur : Array Value} {t : TypeId} {z : Nat × Nat} (hb : w.heap[b]? = some (.cells cur t z)) (ht : t ≠ e) : some b ≠ (Value.slice A n c).ownBlock := fun e1 => by
  obtain ⟨-, -, cu, h1⟩ := h.typedK e1.symm
  rw [hb] at h1
  injection h1 with h1
  injection h1 with _ h1
  exact ht h1
end
/-- A system in a box at bo: its labels and its edges are the call's own. -/
structure KeeW (w wr : World) (bo : Nat) (s i : Int) (A1 : Option Addr) (n2 c1 : Nat) (J : List ByteArray) (A3 : Option Addr) (k c3 : Nat) (E : List Ed) : Prop where
  box : LtsBox wr bo s i A1 n2 c1 A3 k c3
  res : LtsBox wr w.heap.size 0 0 none 0 0 none 0 0
  labs : Own 1 strv wr (w.heap.size + 1) 9 A1 n2 c1 J
  eds : Own 3 ev wr (w.heap.size + 1) 84 A3 k c3 E
  bel : Below w.heap.size w wr
  base : w.heap.size < bo
section
variable {w wr w' : World} {bo : Nat} {s i : Int} {A1 : Option Addr} {n2 c1 : Nat} {J : List ByteArray} {A3 : Option Addr} {k c3 : Nat} {E : List Ed}
theorem KeeW.below (h : KeeW w wr bo s i A1 n2 c1 J A3 k c3 E) (hb : Below wr.heap.size wr w') : KeeW w w' bo s i A1 n2 c1 J A3 k c3 E where
  box := h.box.below hb h.box.lt
  res := h.res.below hb h.res.lt
  labs := h.labs.below hb (Nat.le_refl _)
  eds := h.eds.below hb (Nat.le_refl _)
  bel := h.bel.trans (hb.mono h.bel.size)
  base := h.base
theorem KeeW.alloc (h : KeeW w wr bo s i A1 n2 c1 J A3 k c3 E) (o : Obj) : KeeW w (wr.alloc o) bo s i A1 n2 c1 J A3 k c3 E := h.below ((Below.refl _ _).alloc (Nat.le_refl _) o)
theorem KeeW.drew (h : KeeW w wr bo s i A1 n2 c1 J A3 k c3 E) : KeeW w wr.drew bo s i A1 n2 c1 J A3 k c3 E := h.below (Below.refl _ _).drew
theorem KeeW.grown (h : KeeW w wr bo s i A1 n2 c1 J A3 k c3 E) {A7 : Option Addr} {k7 c7 : Nat} {E' : List Ed} (hg : wr.grownBy w' (Value.slice A3 k c3).ownBlock) (ho : Own 3 ev w' (w.heap.size + 1) 84 A7 k7 c7 E') : LtsBox w' bo s i A1 n2 c1 A3 k c3 ∧ KeeW w (w'.setCell ⟨bo, 3, none⟩ (.slice A7 k7 c7)) bo s i A1 n2 c1 J A7 k7 c7 E' := by
  have hb0 := h.base
  have hbx := h.box.grown hg (h.eds.otherK h.box (by decide))
  have hrs := h.res.grown hg (h.eds.otherK h.res (by decide))
  have hO : Only bo (bo + 1) w' (w'.setCell ⟨bo, 3, none⟩ (.slice A7 k7 c7)) := (Only.refl bo (bo + 1) w').setCell (p := ⟨bo, 3, none⟩) (Nat.le_refl _) (Nat.lt_succ_self _) _
  have hbel : Below w.heap.size w w' := h.bel.grown hg h.bel.size fun q e => by have := (h.eds.lt q e).1; omega
  have hl : Own 1 strv w' (w.heap.size + 1) 9 A1 n2 c1 J := h.labs.keep fun q hq => by
    obtain ⟨-, h2, cur, h3⟩ := h.labs.typedK hq
    exact hg.block q h2 (h.eds.otherK h3 (by decide))
  exact ⟨hbx, hbx.set3, hrs.only hO (.inl (by omega)), hl.asideL (hl.otherK hbx (by decide)) _, ho.asideL (ho.otherK hbx (by decide)) _, Only.below hbel hO (by omega) hbel.size, hb0⟩
/-- The result is written. -/
theorem KeeW.done (h : KeeW w wr bo s i A1 n2 c1 J A3 k c3 E) (a b c d : Value) : SlS (put4 wr w.heap.size a b c d) w.heap.size (put4 wr w.heap.size a b c d).heap.size A1 n2 J ∧ SlE (put4 wr w.heap.size a b c d) w.heap.size (put4 wr w.heap.size a b c d).heap.size A3 k E ∧ Below w.heap.size w (put4 wr w.heap.size a b c d) := by
  have hZs := put4_size wr w.heap.size a b c d
  have hz := h.bel.size
  refine ⟨?_, ?_, h.bel.os, h.bel.tape, h.bel.output, by omega, fun q hq => (put4_other _ _ _ _ _ _ (by omega)).trans (h.bel.block q hq)⟩
  · exact (Sl.keep (h.labs.sl flat_strv) (by omega) fun q h1 h2 h3 => put4_other _ _ _ _ _ _ (by omega)).more (by omega) (by omega)
  · exact (Sl.keep (h.eds.sl flat_ev) (by omega) fun q h1 h2 h3 => put4_other _ _ _ _ _ _ (by omega)).more (by omega) (by omega)
end
end Go.Proofs.YtnhomkmfbngmgaaGreatDoor

namespace Go.Proofs.YtnhomkmfbngmgaaGreatDoor
open Go.ChangeShapes Go.WideShapes Go.ChangeAt Go.RowKit
set_option linter.unusedVariables false
set_option linter.unusedSimpArgs false

theorem elem_intN : Elem Tryz.prog 167 3 1 8 := Elem.of (z := .int .i64 0) Tryz.underlying167 (by kernel_rfl) rfl (by omega) (by omega)
/-- Four lists of the call's own: two of numbers of one type, one of another type, one of texts. -/
structure FourW (w0 wr : World) (A : Option Addr) (nA cA : Nat) (L : List Int) (B : Option Addr) (nB cB : Nat) (R : List Int) (C : Option Addr) (nC cC : Nat) (F : List Int) (D : Option Addr) (nD cD : Nat) (Y : List ByteArray) : Prop where
  l : Own 1 iv wr w0.heap.size 2 A nA cA L
  r : Own 1 iv wr w0.heap.size 2 B nB cB R
  f : Own 1 iv wr w0.heap.size 3 C nC cC F
  y : Own 1 strv wr w0.heap.size 9 D nD cD Y
  sep : ∀ q, (Value.slice A nA cA).ownBlock = some q → (Value.slice B nB cB).ownBlock ≠ some q
  bel : Below w0.heap.size w0 wr
section
variable {α : Type} {size : Nat} {f : α → List Value} {w w' : World} {base n c : Nat} {e : TypeId} {A : Option Addr} {l : List α}
/-- A row of another type does not change when this one grows. -/
theorem Own.byType {β : Type} {sz : Nat} {g : β → List Value} {b2 m d : Nat} {e2 : TypeId} {B : Option Addr} {l2 : List β} (h : Own size f w base e A n c l) (o : Own sz g w b2 e2 B m d l2) (hg : w.grownBy w' (Value.slice B m d).ownBlock) (ht : e ≠ e2) : Own size f w' base e A n c l :=
  h.keep fun q hq => by
    obtain ⟨-, h2, cur, h3⟩ := h.typedK hq
    exact hg.block q h2 (o.otherK h3 ht)
end
section
variable {w0 wr w' : World} {A : Option Addr} {nA cA : Nat} {L : List Int} {B : Option Addr} {nB cB : Nat} {R : List Int} {C : Option Addr} {nC cC : Nat} {F : List Int} {D : Option Addr} {nD cD : Nat} {Y : List ByteArray}
theorem FourW.below (h : FourW w0 wr A nA cA L B nB cB R C nC cC F D nD cD Y) (hb : Below wr.heap.size wr w') : FourW w0 w' A nA cA L B nB cB R C nC cC F D nD cD Y :=
  ⟨h.l.below hb (Nat.le_refl _), h.r.below hb (Nat.le_refl _), h.f.below hb (Nat.le_refl _), h.y.below hb (Nat.le_refl _), h.sep, h.bel.trans (hb.mono h.bel.size)⟩
theorem FourW.alloc (h : FourW w0 wr A nA cA L B nB cB R C nC cC F D nD cD Y) (o : Obj) : FourW w0 (wr.alloc o) A nA cA L B nB cB R C nC cC F D nD cD Y := h.below ((Below.refl _ _).alloc (Nat.le_refl _) o)
theorem FourW.pushL (h : FourW w0 wr A nA cA L B nB cB R C nC cC F D nD cD Y) {A7 : Option Addr} {n7 c7 : Nat} {L7 : List Int} (hg : wr.grownBy w' (Value.slice A nA cA).ownBlock) (ho : Own 1 iv w' w0.heap.size 2 A7 n7 c7 L7) (hat : (Value.slice A7 n7 c7).ownBlock = (Value.slice A nA cA).ownBlock ∨ (Value.slice A7 n7 c7).ownBlock = some wr.heap.size) : FourW w0 w' A7 n7 c7 L7 B nB cB R C nC cC F D nD cD Y where
  l := ho
  r := h.r.keep fun q hq => hg.block q (h.r.lt q hq).2 fun e => h.sep q e.symm hq
  f := h.f.byType h.l hg (by decide)
  y := h.y.byType h.l hg (by decide)
  sep := fun q hq => by
    rcases hat with e | e
    · exact h.sep q (e ▸ hq)
    · intro e2
      have := (h.r.lt q e2).2
      rw [e] at hq
      injection hq with hq
      omega
  bel := h.bel.grown hg h.bel.size fun q e => (h.l.lt q e).1
theorem FourW.pushR (h : FourW w0 wr A nA cA L B nB cB R C nC cC F D nD cD Y) {B7 : Option Addr} {n7 c7 : Nat} {R7 : List Int} (hg : wr.grownBy w' (Value.slice B nB cB).ownBlock) (ho : Own 1 iv w' w0.heap.size 2 B7 n7 c7 R7) (hat : (Value.slice B7 n7 c7).ownBlock = (Value.slice B nB cB).ownBlock ∨ (Value.slice B7 n7 c7).ownBlock = some wr.heap.size) : FourW w0 w' A nA cA L B7 n7 c7 R7 C nC cC F D nD cD Y where
  l := h.l.keep fun q hq => hg.block q (h.l.lt q hq).2 fun e => h.sep q hq e.symm
  r := ho
  f := h.f.byType h.r hg (by decide)
  y := h.y.byType h.r hg (by decide)
  sep := fun q hq e2 => by
    rcases hat with e | e
    · exact h.sep q hq (e ▸ e2)
    · have := (h.l.lt q hq).2
      rw [e] at e2
      injection e2 with e2
      omega
  bel := h.bel.grown hg h.bel.size fun q e => (h.r.lt q e).1
theorem FourW.pushF (h : FourW w0 wr A nA cA L B nB cB R C nC cC F D nD cD Y) {C7 : Option Addr} {n7 c7 : Nat} {F7 : List Int} (hg : wr.grownBy w' (Value.slice C nC cC).ownBlock) (ho : Own 1 iv w' w0.heap.size 3 C7 n7 c7 F7) : FourW w0 w' A nA cA L B nB cB R C7 n7 c7 F7 D nD cD Y where
  l := h.l.byType h.f hg (by decide)
  r := h.r.byType h.f hg (by decide)
  f := ho
  y := h.y.byType h.f hg (by decide)
  sep := h.sep
  bel := h.bel.grown hg h.bel.size fun q e => (h.f.lt q e).1
theorem FourW.pushY (h : FourW w0 wr A nA cA L B nB cB R C nC cC F D nD cD Y) {D7 : Option Addr} {n7 c7 : Nat} {Y7 : List ByteArray} (hg : wr.grownBy w' (Value.slice D nD cD).ownBlock) (ho : Own 1 strv w' w0.heap.size 9 D7 n7 c7 Y7) : FourW w0 w' A nA cA L B nB cB R C nC cC F D7 n7 c7 Y7 where
  l := h.l.byType h.y hg (by decide)
  r := h.r.byType h.y hg (by decide)
  f := h.f.byType h.y hg (by decide)
  y := ho
  sep := h.sep
  bel := h.bel.grown hg h.bel.size fun q e => (h.y.lt q e).1
end
/-- The lists tell the found pairs: their states, where each came from, by which label. -/
structure LinkW (X : List (PT ByteArray)) (L R F : List Int) (Y : List ByteArray) : Prop where
  l : L = X.map (·.1.1)
  r : R = X.map (·.1.2)
  f : F.length = X.length
  y : Y.length = X.length
  nil : ∀ e, X[0]? = some e → e.2 = []
  step : ∀ (j : Nat) (e : PT ByteArray), 0 < j → X[j]? = some e → ∃ (p : Nat) (e' : PT ByteArray) (s : ByteArray), F[j]? = some (p : Int) ∧ p < j ∧ X[p]? = some e' ∧ Y[j]? = some s ∧ e.2 = e'.2 ++ [s]
theorem LinkW.start (x : Int × Int) (s : ByteArray) : LinkW [(x, [])] [x.1] [x.2] [-1] [s] :=
  ⟨rfl, rfl, rfl, rfl, fun e h => by simp at h; rw [← h], fun j e h0 h => by
    have := (List.getElem?_eq_some_iff.1 h).1
    simp at this
    omega⟩
theorem LinkW.push {X : List (PT ByteArray)} {L R F : List Int} {Y : List ByteArray} (h : LinkW X L R F Y) {i : Nat} {e0 : PT ByteArray} (hi : X[i]? = some e0) (q : Int × Int) (s : ByteArray) : LinkW (X ++ [(q, e0.2 ++ [s])]) (L ++ [q.1]) (R ++ [q.2]) (F ++ [(i : Int)]) (Y ++ [s]) where
  l := by rw [h.l]; simp
  r := by rw [h.r]; simp
  f := by rw [List.length_append, List.length_append, h.f]; rfl
  y := by rw [List.length_append, List.length_append, h.y]; rfl
  nil := fun e he => by
    have h0 := (List.getElem?_eq_some_iff.1 hi).1
    rw [List.getElem?_append_left (by omega)] at he
    exact h.nil e he
  step := fun j e hj he => by
    have h0 := (List.getElem?_eq_some_iff.1 hi).1
    by_cases c : j < X.length
    · rw [List.getElem?_append_left c] at he
      obtain ⟨p, e', s', g1, g2, g3, g4, g5⟩ := h.step j e hj he
      exact ⟨p, e', s', by rw [List.getElem?_append_left (by rw [h.f]; exact c)]; exact g1, g2, by rw [List.getElem?_append_left (by omega)]; exact g3, by rw [List.getElem?_append_left (by rw [h.y]; exact c)]; exact g4, g5⟩
    · have hl := (List.getElem?_eq_some_iff.1 he).1
      rw [List.length_append, List.length_singleton] at hl
      obtain rfl : j = X.length := by omega
      rw [List.getElem?_append_right (Nat.le_refl _), Nat.sub_self] at he
      simp at he
      subst he
      exact ⟨i, e0, s, by rw [List.getElem?_append_right (by rw [h.f]; exact Nat.le_refl _), h.f, Nat.sub_self]; rfl, h0, by rw [List.getElem?_append_left h0]; exact hi, by rw [List.getElem?_append_right (by rw [h.y]; exact Nat.le_refl _), h.y, Nat.sub_self]; rfl, rfl⟩
/-- The pairs differ and lie in the range. -/
def RangeW (X : List (PT ByteArray)) : Prop := (prs X).Nodup ∧ ∀ e ∈ X, (-1 ≤ e.1.1 ∧ e.1.1 ≤ 39) ∧ -1 ≤ e.1.2 ∧ e.1.2 ≤ 39
theorem nodup_leW : ∀ (n : Nat) (l : List Nat), l.Nodup → (∀ x ∈ l, x < n) → l.length ≤ n := fun n l h1 h2 => by
  have h3 : l.Sublist l := List.Sublist.refl l
  have h4 : l ⊆ List.range n := fun x hx => List.mem_range.2 (h2 x hx)
  have h5 := h1.length_le_of_subset h4
  rwa [List.length_range] at h5
theorem RangeW.len {X : List (PT ByteArray)} (h : RangeW X) : X.length ≤ 1681 := by
  have h1 : ((prs X).map fun q : Int × Int => (q.1 + 1).toNat * 41 + (q.2 + 1).toNat).Nodup := by
    refine List.pairwise_map.2 (List.Pairwise.imp_of_mem ?_ h.1)
    intro a b ha hb hne e
    obtain ⟨qa, ma, rfl⟩ := List.mem_map.1 ha
    obtain ⟨qb, mb, rfl⟩ := List.mem_map.1 hb
    have ra := h.2 qa ma
    have rb := h.2 qb mb
    refine hne (Prod.ext ?_ ?_) <;> omega
  have h2 := nodup_leW 1681 _ h1 (fun x hx => by
    obtain ⟨q, hq, rfl⟩ := List.mem_map.1 hx
    obtain ⟨r, hr, rfl⟩ := List.mem_map.1 hq
    have := h.2 r hr
    omega)
  rw [List.length_map] at h2
  unfold prs at h2
  rwa [List.length_map] at h2
theorem RangeW.push {X : List (PT ByteArray)} (h : RangeW X) {e : PT ByteArray} (he : e.1 ∉ prs X) (hr : (-1 ≤ e.1.1 ∧ e.1.1 ≤ 39) ∧ -1 ≤ e.1.2 ∧ e.1.2 ≤ 39) : RangeW (X ++ [e]) := by
  refine ⟨?_, fun x hx => ?_⟩
  · unfold prs
    rw [List.map_append]
    refine List.nodup_append.2 ⟨h.1, by simp, fun a ha b hb e1 => ?_⟩
    simp at hb
    subst e1 hb
    exact he ha
  · rcases List.mem_append.1 hx with hx | hx
    · exact h.2 x hx
    · rw [List.mem_singleton.1 hx]; exact hr
theorem addU_app {β : Type} (X M : List (PT β)) (e : PT β) : addU X (M ++ [e]) = if e.1 ∈ prs (addU X M) then addU X M else addU X M ++ [e] := by
  induction M generalizing X with
  | nil => rfl
  | cons a M ih =>
    rw [List.cons_append]
    unfold addU
    exact ih _
end Go.Proofs.YtnhomkmfbngmgaaGreatDoor

namespace Go.Proofs.YtnhomkmfbngmgaaGreatDoor
open Go.ChangeShapes Go.WideShapes Go.ChangeAt Go.RowKit
set_option linter.unusedVariables false
set_option linter.unusedSimpArgs false

/-- What the search answers. -/
def AnsD (r : Option (List ByteArray)) (w : World) (e : Ending) (w' : World) : Prop := match r with
  | none => e = .returned (.tuple #[.slice none 0 0, .bool false])
  | some t => ∃ A n c, e = .returned (.tuple #[.slice A n c, .bool true]) ∧ SlS w' w.heap.size w'.heap.size A n t
theorem labs_few {st ini : Int} {ls : List ByteArray} {es : List Ed} (h : ltsV (st, ini, ls, es) = true) : 1 ≤ ls.length ∧ ls.length ≤ 12 := by
  have h1 := names_of h
  unfold namesB at h1
  rw [Bool.and_eq_true] at h1
  have := inB_true.1 h1.1
  omega
theorem joi_few (ts : List ByteArray) : (joiF ts).length ≤ ts.length + 1 := by
  unfold joiF
  rw [List.length_map]
  refine Nat.le_trans (Go.Lib.compact_length_le _) ?_
  rw [List.length_mergeSort, List.length_map, List.length_cons]
  exact Nat.le_refl _
/-- The pairs differ; their states are states of the two systems. -/
def RangeS (sA sB : Int) (X : List (PT ByteArray)) : Prop := (prs X).Nodup ∧ ∀ e ∈ X, (-1 ≤ e.1.1 ∧ e.1.1 ≤ sA - 1) ∧ -1 ≤ e.1.2 ∧ e.1.2 ≤ sB - 1
theorem RangeS.len {sA sB : Int} {X : List (PT ByteArray)} (h : RangeS sA sB X) (ha : sA ≤ 40) (hb : sB ≤ 40) : X.length ≤ 1681 :=
  RangeW.len ⟨h.1, fun e he => by have := h.2 e he; omega⟩
theorem RangeS.push {sA sB : Int} {X : List (PT ByteArray)} (h : RangeS sA sB X) {e : PT ByteArray} (he : e.1 ∉ prs X) (hr : (-1 ≤ e.1.1 ∧ e.1.1 ≤ sA - 1) ∧ -1 ≤ e.1.2 ∧ e.1.2 ≤ sB - 1) : RangeS sA sB (X ++ [e]) := by
  refine ⟨?_, fun x hx => ?_⟩
  · unfold prs
    rw [List.map_append]
    refine List.nodup_append.2 ⟨h.1, by simp, fun a ha b hb e1 => ?_⟩
    simp at hb
    subst e1 hb
    exact he ha
  · rcases List.mem_append.1 hx with hx | hx
    · exact h.2 x hx
    · rw [List.mem_singleton.1 hx]; exact hr
theorem RangeS.start {sA sB : Int} (a b : Int) (ha : 0 ≤ a ∧ a ≤ sA - 1) (hb : 0 ≤ b ∧ b ≤ sB - 1) : RangeS sA sB [((a, b), [])] := by
  refine ⟨by simp [prs], fun e he => ?_⟩
  rw [List.mem_singleton.1 he]
  dsimp only
  omega
theorem verM_at {s i : Int} {ls : List ByteArray} {es : List Ed} {vs : List Int} {x v : Int} (h : vs[x.toNat]? = some v) : verM ((s, i, ls, es), vs) x = v := by
  show (vs[x.toNat]?).getD 0 = v
  rw [h]; rfl
set_option maxRecDepth 100000 in
set_option maxHeartbeats 12800000 in
theorem l30Differ_calls {w : World} {sA iA sB iB : Int} {la lb : List ByteArray} {ea eb : List Ed} {vsA vsB : List Int} {ba bb : Nat} {A2 : Option Addr} {n2 k2 : Nat} {A3 : Option Addr} {n3 k3 : Nat} {B2 : Option Addr} {m2 j2 : Nat} {B3 : Option Addr} {m3 j3 : Nat} {VA : Option Addr} {nva kva : Nat} {VB : Option Addr} {nvb kvb : Nat}
    (hA : LtsAt w ba (sA, iA, .slice A2 n2 k2, .slice A3 n3 k3) (sA, iA, la, ea)) (hB : LtsAt w bb (sB, iB, .slice B2 m2 j2, .slice B3 m3 j3) (sB, iB, lb, eb)) (ca : w.cell? ⟨ba, 4, none⟩ = some (.slice VA nva kva)) (cb : w.cell? ⟨bb, 4, none⟩ = some (.slice VB nvb kvb)) (ta : SlI w 0 w.heap.size VA nva vsA) (tb : SlI w 0 w.heap.size VB nvb vsB)
    (hla0 : SlS w 0 w.heap.size A2 n2 la) (hlb0 : SlS w 0 w.heap.size B2 m2 lb) (va : monV ((((sA, iA, la, ea)), vsA) : DM) = true) (vb : monV ((((sB, iB, lb, eb)), vsB) : DM) = true) :
    Calls Tryz.prog 68 #[.pointer (some ⟨ba, 0, none⟩), .pointer (some ⟨bb, 0, none⟩)] w fun e w' => ∃ r : Option (List ByteArray), RRun (scM ((((sA, iA, la, ea)), vsA) : DM) ((((sB, iB, lb, eb)), vsB) : DM) (joiF (la ++ lb)).tail) (badR ((((sA, iA, la, ea)), vsA) : DM) ((((sB, iB, lb, eb)), vsB) : DM)) (stopR ((((sA, iA, la, ea)), vsA) : DM)) [((iA, iB), [])] 0 r ∧ AnsD r w e w' ∧ Below w.heap.size w w' := by
  have hE := hide elem_str
  have hEi := hide elem_int64
  have hEn := hide elem_intN
  have vla := monV_lts va
  have vlb := monV_lts vb
  have hfa := labs_few vla
  have hfb := labs_few vlb
  obtain ⟨hsA, hiA⟩ := lts_states vla
  obtain ⟨hsB, hiB⟩ := lts_states vlb
  have hvla := monV_len va
  have hvlb := monV_len vb
  dsimp only at hvla hvlb
  have hlta := ta.len
  have hltb := tb.len
  have hl2 := hla0.len
  have hm2 := hlb0.len
  obtain ⟨-, -, hbta, c0a, c1a, c2a, c3a⟩ := id hA
  obtain ⟨-, -, hbtb, c0b, c1b, c2b, c3b⟩ := id hB
  dsimp only at c0a c1a c2a c3a c0b c1b c2b c3b
  obtain ⟨wD, hwD⟩ : ∃ wD, wD = w.drew := ⟨_, rfl⟩
  have hDD : Hid (Below w.heap.size w wD) := by show Below _ _ _; rw [hwD]; exact (Below.refl _ _).drew
  have hSS : Hid (∀ wx : World, Below w.heap.size w wx → wx.cell? ⟨ba, 2, none⟩ = some (.slice A2 n2 k2) ∧ wx.cell? ⟨bb, 2, none⟩ = some (.slice B2 m2 j2)) := fun wx hx => ⟨(hx.cell (p := ⟨ba, 2, none⟩) hbta).trans c2a, (hx.cell (p := ⟨bb, 2, none⟩) hbtb).trans c2b⟩
  have hO0 : Hid (Own 1 strv (wD.alloc (.cells #[] 9)) wD.heap.size 9 (some ⟨wD.heap.size, 0, none⟩) 0 0 ([] : List ByteArray)) := Own.made (α := ByteArray) (size := 1) (f := strv) wD 9 (Nat.le_refl _)
  have hbL := hide (hDD.out.alloc hDD.out.size (.cells #[] 9))
  have hla := hide (hla0.below hbL.out (.inl (Nat.le_refl _)))
  have hlbK := hide (fun (wx : World) (hx : Below w.heap.size w wx) => hlb0.below hx (.inl (Nat.le_refl _)))
  have hzL : wD.heap.size ≤ (wD.alloc (.cells #[] 9)).heap.size := by rw [World.size_alloc]; omega
  have hAll := hide (fun (wx : World) (hx : Below w.heap.size w wx) => (show (LtsAt wx ba (sA, iA, .slice A2 n2 k2, .slice A3 n3 k3) (sA, iA, la, ea) ∧ LtsAt wx bb (sB, iB, .slice B2 m2 j2, .slice B3 m3 j3) (sB, iB, lb, eb)) ∧ (wx.cell? ⟨ba, 4, none⟩ = some (.slice VA nva kva) ∧ wx.cell? ⟨bb, 4, none⟩ = some (.slice VB nvb kvb)) ∧ (SlI wx 0 w.heap.size VA nva vsA ∧ SlI wx 0 w.heap.size VB nvb vsB) ∧ wx.cell? ⟨ba, 1, none⟩ = some (.int .i64 iA) ∧ wx.cell? ⟨bb, 1, none⟩ = some (.int .i64 iB) from
    ⟨⟨hA.below hx (Nat.le_refl _), hB.below hx (Nat.le_refl _)⟩, ⟨(hx.cell (p := ⟨ba, 4, none⟩) hbta).trans ca, (hx.cell (p := ⟨bb, 4, none⟩) hbtb).trans cb⟩, ⟨ta.below hx (.inl (Nat.le_refl _)), tb.below hx (.inl (Nat.le_refl _))⟩, (hx.cell (p := ⟨ba, 1, none⟩) hbta).trans c1a, (hx.cell (p := ⟨bb, 1, none⟩) hbtb).trans c1b⟩))
  replace hwD := hide hwD
  replace vla := hide vla
  replace vlb := hide vlb
  replace hvla := hide hvla
  replace hvlb := hide hvlb
  replace hlta := hide hlta
  replace hltb := hide hltb
  clear hA hB ca cb ta tb hla0 hlb0 c0a c1a c2a c3a c0b c1b c2b c3b
  obtain ⟨J, hJe⟩ : ∃ J, J = joiF (la ++ lb) := ⟨_, rfl⟩
  rw [← hJe]
  replace hJe := hide hJe
  go_enter Tryz.func68, Tryz.ntmps68
  go_upto_region 1 with fail
  refine lateT_begin (S := fun w' => w'.cell? ⟨ba, 2, none⟩ = some (.slice A2 n2 k2) ∧ w'.cell? ⟨bb, 2, none⟩ = some (.slice B2 m2 j2)) (st := 14) (by kernel_rfl) ?_
  rw [← show wD = _ from hwD.out]
  have hS0 : (fun w' : World => w'.cell? ⟨ba, 2, none⟩ = some (.slice A2 n2 k2) ∧ w'.cell? ⟨bb, 2, none⟩ = some (.slice B2 m2 j2)) wD := hSS.out _ hDD.out
  refine lateT_take (i := 1) (oi := _) (v := ?_) [14] rfl (by kernel_rfl) (by kernel_rfl) (by kernel_rfl) (by kernel_rfl) (fun _ _ _ h => h) (Or.inl ⟨by rfl, ?hy⟩) hS0 ?_
  case hy => (intro w hSw; (try dsimp only at hSw); go_simp <;> with_reducible rfl)
  (try simp only [Act.put, List.setIfInBounds_toArray, List.set_cons_zero, List.set_cons_succ])
  refine lateT_take (i := 2) (oi := _) (v := ?_) [14] rfl (by kernel_rfl) (by kernel_rfl) (by kernel_rfl) (by kernel_rfl) (fun _ _ _ h => h) (Or.inl ⟨by rfl, ?hy⟩) hS0 ?_
  case hy => (intro w hSw; (try dsimp only at hSw); go_simp <;> with_reducible rfl)
  (try simp only [Act.put, List.setIfInBounds_toArray, List.set_cons_zero, List.set_cons_succ])
  refine lateT_take (i := 3) (oi := _) (v := ?_) [14] rfl (by kernel_rfl) (by kernel_rfl) (by kernel_rfl) (by kernel_rfl) (fun _ _ _ h => h) (Or.inl ⟨by rfl, ?hy⟩) hS0 ?_
  case hy => (intro w hSw; (try dsimp only at hSw); go_simp <;> with_reducible rfl)
  (try simp only [Act.put, List.setIfInBounds_toArray, List.set_cons_zero, List.set_cons_succ])
  refine lateT_take (i := 4) (oi := _) (v := ?_) [14] rfl (by kernel_rfl) (by kernel_rfl) (by kernel_rfl) (by kernel_rfl) (fun _ _ _ h => h) (Or.inl ⟨by rfl, ?hy⟩) hS0 ?_
  case hy => (intro w hSw; (try dsimp only at hSw); go_simp <;> with_reducible rfl)
  (try simp only [Act.put, List.setIfInBounds_toArray, List.set_cons_zero, List.set_cons_succ])
  refine lateT_take (i := 5) (oi := _) (v := ?_) [14] rfl (by kernel_rfl) (by kernel_rfl) (by kernel_rfl) (by kernel_rfl) (fun _ _ _ h => h) (Or.inl ⟨by rfl, ?hy⟩) hS0 ?_
  case hy => (intro w hSw; (try dsimp only at hSw); go_simp <;> with_reducible rfl)
  (try simp only [Act.put, List.setIfInBounds_toArray, List.set_cons_zero, List.set_cons_succ])
  refine lateT_take (i := 7) (oi := _) (v := ?_) [14] rfl (by kernel_rfl) (by kernel_rfl) (by kernel_rfl) (by kernel_rfl) (fun _ _ _ h => h) (Or.inl ⟨by rfl, ?hy⟩) hS0 ?_
  case hy => (intro w hSw; (try dsimp only at hSw); go_simp <;> with_reducible rfl)
  (try simp only [Act.put, List.setIfInBounds_toArray, List.set_cons_zero, List.set_cons_succ])
  refine lateT_take (i := 8) (oi := _) (v := ?_) [14] rfl (by kernel_rfl) (by kernel_rfl) (by kernel_rfl) (by kernel_rfl) (fun _ _ _ h => h) (Or.inl ⟨by rfl, ?hy⟩) hS0 ?_
  case hy => (intro w hSw; (try dsimp only at hSw); go_simp <;> with_reducible rfl)
  (try simp only [Act.put, List.setIfInBounds_toArray, List.set_cons_zero, List.set_cons_succ])
  refine lateT_take (i := 9) (oi := _) (v := ?_) [14] rfl (by kernel_rfl) (by kernel_rfl) (by kernel_rfl) (by kernel_rfl) (fun _ _ _ h => h) (Or.inl ⟨by rfl, ?hy⟩) hS0 ?_
  case hy => (intro w hSw; (try dsimp only at hSw); go_simp <;> with_reducible rfl)
  (try simp only [Act.put, List.setIfInBounds_toArray, List.set_cons_zero, List.set_cons_succ])
  refine lateT_take (i := 10) (oi := _) (v := ?_) [14] rfl (by kernel_rfl) (by kernel_rfl) (by kernel_rfl) (by kernel_rfl) (fun _ _ _ h => h) (Or.inl ⟨by rfl, ?hy⟩) hS0 ?_
  case hy => (intro w hSw; (try dsimp only at hSw); go_simp <;> with_reducible rfl)
  (try simp only [Act.put, List.setIfInBounds_toArray, List.set_cons_zero, List.set_cons_succ])
  refine lateT_take (i := 11) (oi := _) (v := ?_) [14] rfl (by kernel_rfl) (by kernel_rfl) (by kernel_rfl) (by kernel_rfl) (fun _ _ _ h => h) (Or.inl ⟨by rfl, ?hy⟩) hS0 ?_
  case hy => (intro w hSw; (try dsimp only at hSw); go_simp <;> with_reducible rfl)
  (try simp only [Act.put, List.setIfInBounds_toArray, List.set_cons_zero, List.set_cons_succ])
  refine lateT_step (i := 0) (by kernel_rfl) rfl (fun K hK => ?_)
  go_simp
  refine hK.out _ _ (fun _ => hSS.out _ hbL.out) ?_
  clear hK K
  (try simp only [Act.put, List.setIfInBounds_toArray, List.set_cons_zero, List.set_cons_succ])
  refine lateT_step (i := 6) (by kernel_rfl) rfl (fun K hK => ?_)
  refine step_appL (m := n2) (d := k2) (by rfl) (.tmp 22) (.tmp 27) (by rfl) hE.out flat_strv (by go_simp) hO0.out (by go_simp) hla.out (by omega) hzL ?_
  intro P1 p1 w1 hown1 hgr1 hbw1 hat1
  have hb1 := hide (hbL.out.grown hgr1 hbL.out.size (fun q e => by have := (hO0.out.lt q e).1; have := hDD.out.size; omega))
  have hlb1 := hide (hlbK.out w1 hb1.out)
  have hS1 := hSS.out w1 hb1.out
  have hz1 : wD.heap.size ≤ w1.heap.size := Nat.le_trans hzL hgr1.size
  replace hown1 := hide hown1
  clear hgr1 hbw1 hat1
  refine hK.out _ _ (fun _ => hS1) ?_
  clear hK K
  (try simp only [Act.put, List.setIfInBounds_toArray, List.set_cons_zero, List.set_cons_succ])
  refine lateT_step (i := 12) (by kernel_rfl) rfl (fun K hK => ?_)
  refine step_appL (m := m2) (d := j2) (by rfl) (.tmp 28) (.tmp 33) (by rfl) hE.out flat_strv (by go_simp) hown1.out (by go_simp) hlb1.out (by omega) hz1 ?_
  intro P2 p2 w2 hown2 hgr2 hbw2 hat2
  have hb2 := hide (hb1.out.grown hgr2 hb1.out.size (fun q e => by have := (hown1.out.lt q e).1; have := hDD.out.size; omega))
  have hS2 := hSS.out w2 hb2.out
  rw [Nat.zero_add, List.nil_append] at hown2
  have qJ := hide (l11Join_calls P2 (n2 + m2) p2 (la ++ lb) w2 _ _ (hown2.sl flat_strv) (Nat.le_refl _) (by omega))
  clear hgr2 hbw2 hat2 hown2
  refine hK.out _ _ (fun _ => hS2) ?_
  clear hK K
  (try simp only [Act.put, List.setIfInBounds_toArray, List.set_cons_zero, List.set_cons_succ])
  refine lateT_step (i := 13) (by kernel_rfl) rfl (fun K hK => ?_)
  go_simp
  go_at_call 146
  (with_reducible refine qJ.out.mono ?_)
  rintro e w3 ⟨AJ, nJ, cJ, rfl, hJ, hb3⟩
  have hb3h := hide (hb2.out.trans (hb3.mono hb2.out.size))
  have hS3 := hSS.out w3 hb3h.out
  have hJh := hide hJ
  clear hb3 hJ qJ
  (try go_wp2_with fail)
  refine hK.out _ _ (fun _ => hS3) ?_
  clear hK K
  (try simp only [Act.put, List.setIfInBounds_toArray, List.set_cons_zero, List.set_cons_succ])
  refine lateT_step (i := 14) (by kernel_rfl) rfl (fun K hK => ?_)
  go_simp
  refine hK.out _ _ (fun h => absurd rfl h) ?_
  clear hK K
  (try simp only [Act.put, List.setIfInBounds_toArray, List.set_cons_zero, List.set_cons_succ])
  refine lateT_done (by kernel_rfl) ?_ _
  have hJl := joi_few (la ++ lb)
  rw [List.length_append] at hJl
  rw [← hJe.out] at hJh hJl
  have hnJ := hJh.out.len
  obtain ⟨-, -, -, cA1, cB1⟩ := hAll.out w3 hb3h.out
  have hzJ := hb3h.out.size
  have hbb3 : bb < w3.heap.size := Nat.lt_of_lt_of_le hbtb hzJ
  have cB1' := (((Below.refl w3.heap.size w3).alloc (Nat.le_refl _) (.cells #[.int .i64 iA] 2)).cell (p := ⟨bb, 1, none⟩) hbb3).trans cB1
  -- the four lists
  have hm1 : Own 1 iv (w3.alloc (.cells #[.int .i64 iA] 2)) w3.heap.size 2 (some ⟨w3.heap.size, 0, none⟩) 1 1 [iA] := Own.litL (heap_alloc_new w3 _) rfl (Nat.le_refl _)
  have z4 : (w3.alloc (.cells #[.int .i64 iA] 2)).heap.size = w3.heap.size + 1 := World.size_alloc _ _
  have hm2' : Own 1 iv ((w3.alloc (.cells #[.int .i64 iA] 2)).alloc (.cells #[.int .i64 iB] 2)) w3.heap.size 2 (some ⟨w3.heap.size + 1, 0, none⟩) 1 1 [iB] := Own.litL (by rw [← z4]; exact heap_alloc_new _ _) rfl (by omega)
  have z5 : ((w3.alloc (.cells #[.int .i64 iA] 2)).alloc (.cells #[.int .i64 iB] 2)).heap.size = w3.heap.size + 1 + 1 := by rw [World.size_alloc, z4]
  have hm3 : Own 1 iv (((w3.alloc (.cells #[.int .i64 iA] 2)).alloc (.cells #[.int .i64 iB] 2)).alloc (.cells #[.int .i64 (-1)] 3)) w3.heap.size 3 (some ⟨w3.heap.size + 1 + 1, 0, none⟩) 1 1 [-1] := Own.litL (by rw [← z5]; exact heap_alloc_new _ _) rfl (by omega)
  have z6 : (((w3.alloc (.cells #[.int .i64 iA] 2)).alloc (.cells #[.int .i64 iB] 2)).alloc (.cells #[.int .i64 (-1)] 3)).heap.size = w3.heap.size + 1 + 1 + 1 := by rw [World.size_alloc, z5]
  have hm4 : Own 1 strv ((((w3.alloc (.cells #[.int .i64 iA] 2)).alloc (.cells #[.int .i64 iB] 2)).alloc (.cells #[.int .i64 (-1)] 3)).alloc (.cells #[.string ⟨#[]⟩] 9)) w3.heap.size 9 (some ⟨w3.heap.size + 1 + 1 + 1, 0, none⟩) 1 1 [⟨#[]⟩] := Own.litL (by rw [← z6]; exact heap_alloc_new _ _) rfl (by omega)
  have hbF := ((((Below.refl w3.heap.size w3).alloc (Nat.le_refl _) (.cells #[.int .i64 iA] 2)).alloc (by omega) (.cells #[.int .i64 iB] 2)).alloc (by omega) (.cells #[.int .i64 (-1)] 3)).alloc (by omega) (.cells #[.string ⟨#[]⟩] 9)
  have hF0 : FourW w3 ((((w3.alloc (.cells #[.int .i64 iA] 2)).alloc (.cells #[.int .i64 iB] 2)).alloc (.cells #[.int .i64 (-1)] 3)).alloc (.cells #[.string ⟨#[]⟩] 9)) (some ⟨w3.heap.size, 0, none⟩) 1 1 [iA] (some ⟨w3.heap.size + 1, 0, none⟩) 1 1 [iB] (some ⟨w3.heap.size + 1 + 1, 0, none⟩) 1 1 [-1] (some ⟨w3.heap.size + 1 + 1 + 1, 0, none⟩) 1 1 [⟨#[]⟩] :=
    ⟨((hm1.alloc _).alloc _).alloc _, (hm2'.alloc _).alloc _, hm3.alloc _, hm4, fun q h1 h2 => (by simp [Value.ownBlock] at h1 h2; omega), hbF⟩
  obtain ⟨w4, hw4⟩ : ∃ w4, w4 = (((w3.alloc (.cells #[.int .i64 iA] 2)).alloc (.cells #[.int .i64 iB] 2)).alloc (.cells #[.int .i64 (-1)] 3)).alloc (.cells #[.string ⟨#[]⟩] 9) := ⟨_, rfl⟩
  rw [← hw4] at hF0
  replace hF0 := hide hF0
  clear hm1 hm2' hm3 hm4 z4 z5 z6 hbF hlb1 hown1 hla hlbK
  go_upto_region 6 with fail
  rw [← hw4]
  replace hw4 := hide hw4
  clear cA1 cB1 cB1' hzJ
  go_wp2_with fail
  go_loopw [7, 8, 9, 10, 11] (fun s7 s8 s9 s10 s11 wr => ∃ (k n : Nat) (X : List (PT ByteArray)) (L R F : List Int) (Y : List ByteArray) (A : Option Addr) (cA : Nat) (B : Option Addr) (cB : Nat) (C : Option Addr) (cC : Nat) (D : Option Addr) (cD : Nat), k ≤ n ∧ X.length = n ∧ s7 = .slice A n cA ∧ s8 = .slice B n cB ∧ s9 = .slice C n cC ∧ s10 = .slice D n cD ∧ s11 = .int .i64 (k : Nat) ∧ Hid (FourW w3 wr A n cA L B n cB R C n cC F D n cD Y) ∧ Hid (LinkW X L R F Y) ∧ Hid (RangeS sA sB X) ∧ Hid (∀ r, RRun (scM ((((sA, iA, la, ea)), vsA) : DM) ((((sB, iB, lb, eb)), vsB) : DM) J.tail) (badR ((((sA, iA, la, ea)), vsA) : DM) ((((sB, iB, lb, eb)), vsB) : DM)) (stopR ((((sA, iA, la, ea)), vsA) : DM)) X k r → RRun (scM ((((sA, iA, la, ea)), vsA) : DM) ((((sB, iB, lb, eb)), vsB) : DM) J.tail) (badR ((((sA, iA, la, ea)), vsA) : DM) ((((sB, iB, lb, eb)), vsB) : DM)) (stopR ((((sA, iA, la, ea)), vsA) : DM)) [((iA, iB), [])] 0 r)) (fun _ _ _ _ s11 _ => 1682 - (intOf s11).toNat)
  case atStart => exact ⟨0, 1, [((iA, iB), [])], _, _, _, _, _, _, _, _, _, _, _, _, by omega, rfl, rfl, rfl, rfl, rfl, rfl, hF0, LinkW.start _ _, RangeS.start _ _ hiA hiB, fun r h => h⟩
  case round =>
    obtain ⟨k, n, X, L, R, F, Y, A, cA, B, cB, C, cC, D, cD, hkn, hXn, rfl, rfl, rfl, rfl, rfl, hF, hL, hG, hR⟩ := hrel
    have hn1 := hG.out.len hsA.2 hsB.2
    have hbr := hide (hb3h.out.trans (hF.out.bel.mono hb3h.out.size))
    clear hF0
    by_cases hlt : k < n
    · obtain ⟨⟨⟨x, y⟩, t⟩, hx⟩ : ∃ e, X[k]? = some e := ⟨_, List.getElem?_eq_getElem (by omega)⟩
      have hxr := hG.out.2 _ (List.mem_of_getElem? hx)
      dsimp only at hxr
      obtain ⟨⟨hx0, hx1⟩, hy0, hy1⟩ := hxr
      obtain ⟨ga, oa, x', rfl, -, -, gla, hx2, px, -⟩ := SlI.get (hF.out.l.sl flat_iv) hlt
      obtain ⟨gb, ob, y', rfl, -, -, glb, hy2, py, -⟩ := SlI.get (hF.out.r.sl flat_iv) hlt
      obtain rfl : x = x' := by rw [hL.out.l, List.getElem?_map, hx] at hx2; simpa using hx2
      obtain rfl : y = y' := by rw [hL.out.r, List.getElem?_map, hx] at hy2; simpa using hy2
      obtain ⟨-, ⟨cvA, cvB⟩, ⟨tvA, tvB⟩, -, -⟩ := hAll.out wr hbr.out
      have hk0 : (0 : Int) ≤ (k : Int) := by omega
      have hk1 : (k : Int) < (n : Int) := by omega
      have hlnA : vsA.length = nva := hlta.out
      have hlnB : vsB.length = nvb := hltb.out
      have hsvA := hvla.out
      have hsvB := hvlb.out
      replace hx := hide hx
      clear hx2 hy2
      go_upto_region 11 with fail
      go_cut [14] (fun v wx => v = .bool (badR ((((sA, iA, la, ea)), vsA) : DM) ((((sB, iB, lb, eb)), vsB) : DM) (x, y)) ∧ ∃ nq, wx = wr.drewN nq)
      case first =>
        clear px py
        by_cases c1 : x < 0
        · have d1 : decide (x < 0) = true := decide_eq_true c1
          have d3 : decide (x ≥ 0) = false := decide_eq_false (by omega)
          by_cases c2 : y < 0
          · have d2 : decide (y < 0) = true := decide_eq_true c2
            have e9 : badR ((((sA, iA, la, ea)), vsA) : DM) ((((sB, iB, lb, eb)), vsB) : DM) (x, y) = false := by unfold badR; simp [c1, c2]; omega
            go_quiet (fail)
            go_wp2_with fail
            go_meet
            exact ⟨by rw [e9], _, rfl⟩
          · have d2 : decide (y < 0) = false := decide_eq_false c2
            have e9 : badR ((((sA, iA, la, ea)), vsA) : DM) ((((sB, iB, lb, eb)), vsB) : DM) (x, y) = true := by unfold badR; simp [c1, c2]
            go_quiet (fail)
            go_wp2_with fail
            go_meet
            exact ⟨by rw [e9], _, rfl⟩
        · have d1 : decide (x < 0) = false := decide_eq_false c1
          have d3 : decide (x ≥ 0) = true := decide_eq_true (by omega)
          by_cases c2 : y < 0
          · have d2 : decide (y < 0) = true := decide_eq_true c2
            have e9 : badR ((((sA, iA, la, ea)), vsA) : DM) ((((sB, iB, lb, eb)), vsB) : DM) (x, y) = true := by unfold badR; simp [c1, c2]
            go_quiet (fail)
            go_wp2_with fail
            go_meet
            exact ⟨by rw [e9], _, rfl⟩
          · have d2 : decide (y < 0) = false := decide_eq_false c2
            obtain ⟨xk, rfl⟩ : ∃ k : Nat, x = (k : Int) := ⟨x.toNat, by omega⟩
            obtain ⟨yk, rfl⟩ : ∃ k : Nat, y = (k : Int) := ⟨y.toNat, by omega⟩
            obtain ⟨gv, ov, vx, rfl, -, -, -, gx2, pvx, -⟩ := SlI.get tvA (show xk < nva by omega)
            obtain ⟨gu, ou, vy, rfl, -, -, -, gy2, pvy, -⟩ := SlI.get tvB (show yk < nvb by omega)
            have e8 : badR ((((sA, iA, la, ea)), vsA) : DM) ((((sB, iB, lb, eb)), vsB) : DM) ((xk : Int), (yk : Int)) = decide (vx ≠ vy) := by
              unfold badR
              rw [verM_at (x := (xk : Int)) (by rw [Int.toNat_natCast]; exact gx2), verM_at (x := (yk : Int)) (by rw [Int.toNat_natCast]; exact gy2)]
              have h0 : (0 : Int) ≤ (xk : Int) := by omega
              simp only [c1, c2, h0, decide_false, decide_true, Bool.true_and, bne_self_eq_false, Bool.false_or]
            have i0 : (0 : Int) ≤ (xk : Int) := by omega
            have i1 : (xk : Int) < (nva : Int) := by omega
            have i2 : (0 : Int) ≤ (yk : Int) := by omega
            have i3 : (yk : Int) < (nvb : Int) := by omega
            by_cases c3 : vx = vy
            · subst c3
              have d4 : decide (vx = vx) = true := decide_eq_true rfl
              go_quiet (fail)
              go_wp2_with fail
              go_meet
              exact ⟨by rw [e8]; simp, _, rfl⟩
            · have d4 : decide (vx = vy) = false := decide_eq_false c3
              go_quiet (fail)
              go_wp2_with fail
              go_meet
              exact ⟨by rw [e8]; simp [c3], _, rfl⟩
      case rest =>
        obtain ⟨rfl, nq, hwq⟩ := hcut
        have hbq : Below wr.heap.size wr wc := by rw [hwq]; exact below_drewN _ _
        have hFq := hF.out.below hbq
        have hbrq := hide (hbr.out.trans (hbq.mono hbr.out.size))
        have hzq := hbrq.out.size
        have pxq := (hbq.cell (p := ⟨ga, oa + k, none⟩) gla).trans px
        have pyq := (hbq.cell (p := ⟨gb, ob + k, none⟩) glb).trans py
        replace hFq := hide hFq
        clear hwq hF hbr cvA cvB tvA tvB px py hbq
        cases hbad : badR ((((sA, iA, la, ea)), vsA) : DM) ((((sB, iB, lb, eb)), vsB) : DM) (x, y) with
        | true =>
          have hbadh := hide hbad
          clear hbad
          have hO5 := Own.made (α := ByteArray) (size := 1) (f := strv) wc 9 (base := wc.heap.size) (Nat.le_refl _)
          have hS5 := hide ((hO5.sl flat_strv).more (hzq) (Nat.le_refl _))
          have hb5 := hide ((Below.refl wc.heap.size wc).alloc (Nat.le_refl _) (.cells #[] 9))
          clear hO5
          go_wp2_with fail
          go_loopw [15, 16] (fun s15 s16 w6 => ∃ (j : Nat) (e : PT ByteArray) (T : List ByteArray) (A' : Option Addr) (m c : Nat), j ≤ k ∧ m ≤ k - j ∧ X[j]? = some e ∧ s15 = .slice A' m c ∧ s16 = .int .i64 (j : Nat) ∧ Hid (SlS w6 w.heap.size w6.heap.size A' m T) ∧ Hid (t = e.2 ++ T) ∧ Hid (Below wc.heap.size wc w6)) (fun _ s16 _ => (intOf s16).toNat)
          case atStart => exact ⟨k, _, [], _, 0, _, Nat.le_refl _, by omega, hx.out, rfl, rfl, hS5, (List.append_nil _).symm, hb5⟩
          case round =>
            obtain ⟨j, e, T, A', m, c, hjk, hmk, hje, rfl, rfl, hST, ht, hb6⟩ := hrel
            clear hS5 hb5
            have hFj := hFq.out.below hb6.out
            by_cases hj0 : 0 < j
            · obtain ⟨pp, e', s', g1, g2, g3, g4, g5⟩ := hL.out.step j e hj0 hje
              obtain ⟨gc, oc, f', rfl, -, -, hgf, f2, pf, -⟩ := SlI.get (hFj.f.sl flat_iv) (show j < n by omega)
              obtain ⟨gd, od, y', rfl, -, -, -, y2, pY, -⟩ := SlS.get (hFj.y.sl flat_strv) (show j < n by omega)
              obtain rfl : f' = (pp : Int) := by rw [g1] at f2; injection f2 with f2; exact f2.symm
              obtain rfl : y' = s' := by rw [g4] at y2; injection y2 with y2; exact y2.symm
              have hj1 : (j : Int) > 0 := by omega
              have hj2 : (0 : Int) ≤ (j : Int) := by omega
              have hj3 : (j : Int) < (n : Int) := by omega
              have hlit := hide (Own.litL (α := ByteArray) (f := strv) (base := wr.heap.size) (heap_alloc_new wr (.cells #[.string y'] 9)) (x := y') rfl (Nat.le_refl _))
              have hbA := hide (Below.alloc (Below.refl wr.heap.size wr) (Nat.le_refl _) (.cells #[.string y'] 9))
              have hST7 := hide (hST.out.below hbA.out (.inl (Nat.le_refl _)))
              have hz7 : wr.heap.size ≤ (wr.alloc (.cells #[.string y'] 9)).heap.size := by rw [World.size_alloc]; omega
              have hz6 := hb6.out.size
              have hsz7 : (1 + m) * 16 ≤ 140737488355328 := by omega
              clear hST hFj
              go_upto_region 16 with (first | (at_builtin; (with_reducible refine wpList_app rfl (.tmp 103) (.tmp 104) rfl hE.out flat_strv rfl hlit.out rfl hST7.out hsz7 hz7 ?_); intro A8 c8 w8 hown8 hgr8 hb8 hat8))
              have hb8h := hbA.out.trans hb8
              have pf8 := (hb8h.cell (p := ⟨gc, oc + j, none⟩) hgf).trans pf
              have hS8 := hide ((hown8.sl flat_strv).more (lo' := w.heap.size) (Nat.le_trans hzq hz6) (Nat.le_refl _))
              have hb9 := hide (hb6.out.trans (hb8h.mono hz6))
              clear hgr8 hb8 hat8 hown8 hb8h pf hgf
              go_wp2_with fail
              go_roundw
              case rel => exact ⟨pp, e', y' :: T, A8, 1 + m, c8, by omega, by omega, g3, rfl, rfl, hS8.out, by show _ = _; rw [ht.out, g5, List.append_assoc]; rfl, hb9.out⟩
              case measure => simp [intOf]; omega
            · obtain rfl : j = 0 := by omega
              have hT : Hid (T = t) := by show _ = _; rw [ht.out, hL.out.nil e hje]; rfl
              go_wp2_with fail
              go_ret2
              exact ⟨some t, hR.out _ (RRun.hit hx.out hbadh.out), ⟨A', m, c, rfl, by rw [← hT.out]; exact hST.out⟩, hbrq.out.trans (hb6.out.mono hbrq.out.size)⟩
        | false =>
          have hbadh := hide hbad
          clear hbad
          go_upto_region 19 with fail
          go_cut [118] (fun v wx => v = .bool (stopR ((((sA, iA, la, ea)), vsA) : DM) (x, y)) ∧ wx = wc)
          case first =>
            obtain ⟨-, ⟨cvA, cvB⟩, ⟨tvA, tvB⟩, -, -⟩ := hAll.out wc hbrq.out
            clear pxq pyq
            by_cases c1 : x < 0
            · have d1 : decide (x < 0) = true := decide_eq_true c1
              have e9 : stopR ((((sA, iA, la, ea)), vsA) : DM) (x, y) = true := by unfold stopR; simp [c1]
              go_wp2_with fail
              go_meet
              exact ⟨by rw [e9], rfl⟩
            · have d1 : decide (x < 0) = false := decide_eq_false c1
              obtain ⟨xk, rfl⟩ : ∃ k : Nat, x = (k : Int) := ⟨x.toNat, by omega⟩
              obtain ⟨gv, ov, vx, rfl, -, -, -, gx2, pvx, -⟩ := SlI.get tvA (show xk < nva by omega)
              have e8 : stopR ((((sA, iA, la, ea)), vsA) : DM) ((xk : Int), y) = decide (vx ≠ 0) := by
                unfold stopR
                rw [verM_at (x := (xk : Int)) (by rw [Int.toNat_natCast]; exact gx2)]
                simp only [c1, decide_false, Bool.false_or]
              have i0 : (0 : Int) ≤ (xk : Int) := by omega
              have i1 : (xk : Int) < (nva : Int) := by omega
              by_cases c3 : vx = 0
              · subst c3
                go_wp2_with fail
                go_meet
                exact ⟨by rw [e8]; simp, rfl⟩
              · have d4 : decide (vx = 0) = false := decide_eq_false c3
                go_wp2_with fail
                go_meet
                exact ⟨by rw [e8]; simp [c3], rfl⟩
          case rest =>
            obtain ⟨rfl, rfl⟩ := hcut
            cases hstop : stopR ((((sA, iA, la, ea)), vsA) : DM) (x, y) with
            | true =>
              have hR2 := hide (fun r (h : RRun (scM ((((sA, iA, la, ea)), vsA) : DM) ((((sB, iB, lb, eb)), vsB) : DM) J.tail) (badR ((((sA, iA, la, ea)), vsA) : DM) ((((sB, iB, lb, eb)), vsB) : DM)) (stopR ((((sA, iA, la, ea)), vsA) : DM)) X (k + 1) r) => hR.out r (RRun.stop hx.out hbadh.out hstop h))
              clear hstop
              have hk2 : IntKind.i64.wrap ((k : Int) + 1) = ((k + 1 : Nat) : Int) := by rw [IntWalk.i64_in _ (by omega)]; rfl
              go_wp2_with fail
              go_roundw
              case rel => exact ⟨k + 1, n, X, L, R, F, Y, _, cA, _, cB, C, cC, D, cD, by omega, hXn, rfl, rfl, rfl, rfl, by go_num, hFq, hL, hG, hR2⟩
              case measure => simp [intOf]; omega
            | false =>
              have hR2 := hide (fun r (h : RRun (scM ((((sA, iA, la, ea)), vsA) : DM) ((((sB, iB, lb, eb)), vsB) : DM) J.tail) (badR ((((sA, iA, la, ea)), vsA) : DM) ((((sB, iB, lb, eb)), vsB) : DM)) (stopR ((((sA, iA, la, ea)), vsA) : DM)) (addU X (scM ((((sA, iA, la, ea)), vsA) : DM) ((((sB, iB, lb, eb)), vsB) : DM) J.tail (x, y) t)) (k + 1) r) => hR.out r (RRun.go hx.out hbadh.out hstop h))
              clear hstop
              go_wp2_with fail
              go_loopw [7, 8, 9, 10, 17] (fun s7 s8 s9 s10 s17 wr => ∃ (j n' : Nat) (X' : List (PT ByteArray)) (L R F : List Int) (Y : List ByteArray) (A : Option Addr) (cA : Nat) (B : Option Addr) (cB : Nat) (C : Option Addr) (cC : Nat) (D : Option Addr) (cD : Nat), 1 ≤ j ∧ j ≤ nJ + 1 ∧ n ≤ n' ∧ X'.length = n' ∧ s7 = .slice A n' cA ∧ s8 = .slice B n' cB ∧ s9 = .slice C n' cC ∧ s10 = .slice D n' cD ∧ s17 = .int .i64 (j : Nat) ∧ Hid (X'[k]? = some ((x, y), t)) ∧ Hid (FourW w3 wr A n' cA L B n' cB R C n' cC F D n' cD Y) ∧ Hid (LinkW X' L R F Y) ∧ Hid (RangeS sA sB X') ∧ Hid (X' = addU X (scM ((((sA, iA, la, ea)), vsA) : DM) ((((sB, iB, lb, eb)), vsB) : DM) (J.tail.take (j - 1)) (x, y) t))) (fun _ _ _ _ s17 _ => nJ - (intOf s17).toNat)
              case atStart => exact ⟨1, n, X, L, R, F, Y, _, cA, _, cB, C, cC, D, cD, Nat.le_refl _, by omega, Nat.le_refl _, hXn, rfl, rfl, rfl, rfl, rfl, hx, hFq, hL, hG, rfl⟩
              case round =>
                obtain ⟨j, n', X', L', R', F', Y', A', cA', B', cB', C', cC', D', cD', hj0, hj1, hnn, hXn', rfl, rfl, rfl, rfl, rfl, hx', hF', hL', hG', hX'⟩ := hrel
                have hn2 := hG'.out.len hsA.2 hsB.2
                clear hx hFq hL hG
                by_cases hjl : j < nJ
                · obtain ⟨gJ, oJ, s, rfl, -, -, hgJ0, hs, pj0, -⟩ := SlS.get (hJh.out.sl flat_strv) hjl
                  have hSJ := hide (fun (wx : World) (hx : Below w3.heap.size w3 wx) => (hx.cell (p := ⟨gJ, oJ + j, none⟩) hgJ0).trans pj0)
                  have hgJ := Nat.lt_of_lt_of_le hgJ0 hF'.out.bel.size
                  have pj := hSJ.out wr hF'.out.bel
                  clear pj0 hgJ0
                  have hSj := hide (fun (wx : World) (hx : Below wr.heap.size wr wx) => (hx.cell (p := ⟨gJ, oJ + j, none⟩) hgJ).trans pj)
                  have hbr2 := hide (hb3h.out.trans (hF'.out.bel.mono hb3h.out.size))
                  have hzr2 := hbr2.out.size
                  have i0 : (0 : Int) ≤ (j : Int) := by omega
                  have i1 : (j : Int) < (nJ : Int) := by omega
                  obtain ⟨wD1, hwD1⟩ : ∃ wD1, wD1 = wr.drew := ⟨_, rfl⟩
                  have hD1 : Hid (Below wr.heap.size wr wD1) := by show Below _ _ _; rw [hwD1]; exact (Below.refl _ _).drew
                  replace hwD1 := hide hwD1
                  have q1 := hide (l12Go_calls ba _ _ x s wD1 (hAll.out wD1 (hbr2.out.trans (hD1.out.mono hzr2))).1.1 vla.out)
                  clear pj
                  go_upto_region 23 with fail
                  refine lateT_begin (S := fun w' => w'.cell? ⟨gJ, oJ + j, none⟩ = some (.string s)) (st := 9) (by kernel_rfl) ?_
                  rw [← show wD1 = _ from hwD1.out]
                  have hS0 : (fun w' : World => w'.cell? ⟨gJ, oJ + j, none⟩ = some (.string s)) wD1 := hSj.out _ hD1.out
                  refine lateT_take (i := 0) (oi := _) (v := ?_) [9] rfl (by kernel_rfl) (by kernel_rfl) (by kernel_rfl) (by kernel_rfl) (fun _ _ _ h => h) (Or.inl ⟨by rfl, ?hy⟩) hS0 ?_
                  case hy => (intro w hSw; (try dsimp only at hSw); go_simp <;> with_reducible rfl)
                  (try simp only [Act.put, List.setIfInBounds_toArray, List.set_cons_zero, List.set_cons_succ])
                  refine lateT_take (i := 1) (oi := _) (v := ?_) [9] rfl (by kernel_rfl) (by kernel_rfl) (by kernel_rfl) (by kernel_rfl) (fun _ _ _ h => h) (Or.inl ⟨by rfl, ?hy⟩) hS0 ?_
                  case hy => (intro w hSw; (try dsimp only at hSw); go_simp <;> with_reducible rfl)
                  (try simp only [Act.put, List.setIfInBounds_toArray, List.set_cons_zero, List.set_cons_succ])
                  refine lateT_take (i := 2) (oi := _) (v := ?_) [9] rfl (by kernel_rfl) (by kernel_rfl) (by kernel_rfl) (by kernel_rfl) (fun _ _ _ h => h) (Or.inl ⟨by rfl, ?hy⟩) hS0 ?_
                  case hy => (intro w hSw; (try dsimp only at hSw); go_simp <;> with_reducible rfl)
                  (try simp only [Act.put, List.setIfInBounds_toArray, List.set_cons_zero, List.set_cons_succ])
                  refine lateT_take (i := 3) (oi := _) (v := ?_) [9] rfl (by kernel_rfl) (by kernel_rfl) (by kernel_rfl) (by kernel_rfl) (fun _ _ _ h => h) (Or.inl ⟨by rfl, ?hy⟩) hS0 ?_
                  case hy => (intro w hSw; (try dsimp only at hSw); go_simp <;> with_reducible rfl)
                  (try simp only [Act.put, List.setIfInBounds_toArray, List.set_cons_zero, List.set_cons_succ])
                  refine lateT_take (i := 4) (oi := _) (v := ?_) [9] rfl (by kernel_rfl) (by kernel_rfl) (by kernel_rfl) (by kernel_rfl) (fun _ _ _ h => h) (Or.inl ⟨by rfl, ?hy⟩) hS0 ?_
                  case hy => (intro w hSw; (try dsimp only at hSw); go_simp <;> with_reducible rfl)
                  (try simp only [Act.put, List.setIfInBounds_toArray, List.set_cons_zero, List.set_cons_succ])
                  refine lateT_take (i := 5) (oi := _) (v := ?_) [9] rfl (by kernel_rfl) (by kernel_rfl) (by kernel_rfl) (by kernel_rfl) (fun _ _ _ h => h) (Or.inl ⟨by rfl, ?hy⟩) hS0 ?_
                  case hy => (intro w hSw; (try dsimp only at hSw); go_simp <;> with_reducible rfl)
                  (try simp only [Act.put, List.setIfInBounds_toArray, List.set_cons_zero, List.set_cons_succ])
                  refine lateT_take (i := 6) (oi := _) (v := ?_) [9] rfl (by kernel_rfl) (by kernel_rfl) (by kernel_rfl) (by kernel_rfl) (fun _ _ _ h => h) (Or.inl ⟨by rfl, ?hy⟩) hS0 ?_
                  case hy => (intro w hSw; (try dsimp only at hSw); go_simp <;> with_reducible rfl)
                  (try simp only [Act.put, List.setIfInBounds_toArray, List.set_cons_zero, List.set_cons_succ])
                  refine lateT_take (i := 7) (oi := _) (v := ?_) [9] rfl (by kernel_rfl) (by kernel_rfl) (by kernel_rfl) (by kernel_rfl) (fun _ _ _ h => h) (Or.inl ⟨by rfl, ?hy⟩) hS0 ?_
                  case hy => (intro w hSw; (try dsimp only at hSw); go_simp <;> with_reducible rfl)
                  (try simp only [Act.put, List.setIfInBounds_toArray, List.set_cons_zero, List.set_cons_succ])
                  refine lateT_step (i := 8) (by kernel_rfl) rfl (fun K hK => ?_)
                  go_simp
                  go_at_call 147
                  (with_reducible refine q1.out.mono ?_)
                  rintro e wG ⟨rfl, hg1⟩
                  have hg1h := hide (hD1.out.trans (hg1.mono hD1.out.size))
                  have hSn := hSj.out _ hg1h.out
                  clear hg1
                  (try go_wp2_with fail)
                  refine hK.out _ _ (fun _ => hSn) ?_
                  clear hK K
                  (try simp only [Act.put, List.setIfInBounds_toArray, List.set_cons_zero, List.set_cons_succ])
                  refine lateT_step (i := 9) (by kernel_rfl) rfl (fun K hK => ?_)
                  go_simp
                  refine hK.out _ _ (fun h => absurd rfl h) ?_
                  clear hK K
                  (try simp only [Act.put, List.setIfInBounds_toArray, List.set_cons_zero, List.set_cons_succ])
                  refine lateT_done (by kernel_rfl) ?_ _
                  obtain ⟨wD2, hwD2⟩ : ∃ wD2, wD2 = wG.drew := ⟨_, rfl⟩
                  have hD2 : Hid (Below wr.heap.size wr wD2) := by show Below _ _ _; rw [hwD2]; exact hg1h.out.trans ((Below.refl _ _).drew.mono hg1h.out.size)
                  replace hwD2 := hide hwD2
                  have q2 := hide (l12Go_calls bb _ _ y s wD2 (hAll.out wD2 (hbr2.out.trans (hD2.out.mono hzr2))).1.2 vlb.out)
                  go_upto_region 24 with fail
                  refine lateT_begin (S := fun w' => w'.cell? ⟨gJ, oJ + j, none⟩ = some (.string s)) (st := 9) (by kernel_rfl) ?_
                  rw [← show wD2 = _ from hwD2.out]
                  have hS0 : (fun w' : World => w'.cell? ⟨gJ, oJ + j, none⟩ = some (.string s)) wD2 := hSj.out _ hD2.out
                  refine lateT_take (i := 0) (oi := _) (v := ?_) [9] rfl (by kernel_rfl) (by kernel_rfl) (by kernel_rfl) (by kernel_rfl) (fun _ _ _ h => h) (Or.inl ⟨by rfl, ?hy⟩) hS0 ?_
                  case hy => (intro w hSw; (try dsimp only at hSw); go_simp <;> with_reducible rfl)
                  (try simp only [Act.put, List.setIfInBounds_toArray, List.set_cons_zero, List.set_cons_succ])
                  refine lateT_take (i := 1) (oi := _) (v := ?_) [9] rfl (by kernel_rfl) (by kernel_rfl) (by kernel_rfl) (by kernel_rfl) (fun _ _ _ h => h) (Or.inl ⟨by rfl, ?hy⟩) hS0 ?_
                  case hy => (intro w hSw; (try dsimp only at hSw); go_simp <;> with_reducible rfl)
                  (try simp only [Act.put, List.setIfInBounds_toArray, List.set_cons_zero, List.set_cons_succ])
                  refine lateT_take (i := 2) (oi := _) (v := ?_) [9] rfl (by kernel_rfl) (by kernel_rfl) (by kernel_rfl) (by kernel_rfl) (fun _ _ _ h => h) (Or.inl ⟨by rfl, ?hy⟩) hS0 ?_
                  case hy => (intro w hSw; (try dsimp only at hSw); go_simp <;> with_reducible rfl)
                  (try simp only [Act.put, List.setIfInBounds_toArray, List.set_cons_zero, List.set_cons_succ])
                  refine lateT_take (i := 3) (oi := _) (v := ?_) [9] rfl (by kernel_rfl) (by kernel_rfl) (by kernel_rfl) (by kernel_rfl) (fun _ _ _ h => h) (Or.inl ⟨by rfl, ?hy⟩) hS0 ?_
                  case hy => (intro w hSw; (try dsimp only at hSw); go_simp <;> with_reducible rfl)
                  (try simp only [Act.put, List.setIfInBounds_toArray, List.set_cons_zero, List.set_cons_succ])
                  refine lateT_take (i := 4) (oi := _) (v := ?_) [9] rfl (by kernel_rfl) (by kernel_rfl) (by kernel_rfl) (by kernel_rfl) (fun _ _ _ h => h) (Or.inl ⟨by rfl, ?hy⟩) hS0 ?_
                  case hy => (intro w hSw; (try dsimp only at hSw); go_simp <;> with_reducible rfl)
                  (try simp only [Act.put, List.setIfInBounds_toArray, List.set_cons_zero, List.set_cons_succ])
                  refine lateT_take (i := 5) (oi := _) (v := ?_) [9] rfl (by kernel_rfl) (by kernel_rfl) (by kernel_rfl) (by kernel_rfl) (fun _ _ _ h => h) (Or.inl ⟨by rfl, ?hy⟩) hS0 ?_
                  case hy => (intro w hSw; (try dsimp only at hSw); go_simp <;> with_reducible rfl)
                  (try simp only [Act.put, List.setIfInBounds_toArray, List.set_cons_zero, List.set_cons_succ])
                  refine lateT_take (i := 6) (oi := _) (v := ?_) [9] rfl (by kernel_rfl) (by kernel_rfl) (by kernel_rfl) (by kernel_rfl) (fun _ _ _ h => h) (Or.inl ⟨by rfl, ?hy⟩) hS0 ?_
                  case hy => (intro w hSw; (try dsimp only at hSw); go_simp <;> with_reducible rfl)
                  (try simp only [Act.put, List.setIfInBounds_toArray, List.set_cons_zero, List.set_cons_succ])
                  refine lateT_take (i := 7) (oi := _) (v := ?_) [9] rfl (by kernel_rfl) (by kernel_rfl) (by kernel_rfl) (by kernel_rfl) (fun _ _ _ h => h) (Or.inl ⟨by rfl, ?hy⟩) hS0 ?_
                  case hy => (intro w hSw; (try dsimp only at hSw); go_simp <;> with_reducible rfl)
                  (try simp only [Act.put, List.setIfInBounds_toArray, List.set_cons_zero, List.set_cons_succ])
                  refine lateT_step (i := 8) (by kernel_rfl) rfl (fun K hK => ?_)
                  go_simp
                  go_at_call 147
                  (with_reducible refine q2.out.mono ?_)
                  rintro e wH ⟨rfl, hg2⟩
                  have hg2h := hide (hD2.out.trans (hg2.mono hD2.out.size))
                  have hSn := hSj.out _ hg2h.out
                  clear hg2
                  (try go_wp2_with fail)
                  refine hK.out _ _ (fun _ => hSn) ?_
                  clear hK K
                  (try simp only [Act.put, List.setIfInBounds_toArray, List.set_cons_zero, List.set_cons_succ])
                  refine lateT_step (i := 9) (by kernel_rfl) rfl (fun K hK => ?_)
                  go_simp
                  refine hK.out _ _ (fun h => absurd rfl h) ?_
                  clear hK K
                  (try simp only [Act.put, List.setIfInBounds_toArray, List.set_cons_zero, List.set_cons_succ])
                  refine lateT_done (by kernel_rfl) ?_ _
                  clear q1 q2
                  obtain ⟨p, hp⟩ : ∃ p, p = goE ea la s x := ⟨_, rfl⟩
                  obtain ⟨q, hq⟩ : ∃ q, q = goE eb lb s y := ⟨_, rfl⟩
                  have hpr := goE_range vla.out s x
                  have hqr := goE_range vlb.out s y
                  rw [← hp] at hpr
                  rw [← hq] at hqr
                  rw [← hp, ← hq]
                  have hpq : Hid ((goM ((((sA, iA, la, ea)), vsA) : DM) s x, goM ((((sB, iB, lb, eb)), vsB) : DM) s y) = (p, q)) := by show _ = _; rw [hp, hq]; rfl
                  replace hp := hide hp
                  replace hq := hide hq
                  have hFH := hide (hF'.out.below hg2h.out)
                  clear hS0 hF' i0 i1 hj1
                  (try simp only [Exit.then])
                  go_wp2_with fail
                  go_loopw [20, 21] (fun s20 s21 wx => ∃ m : Nat, m ≤ n' ∧ s20 = .bool (decide ((p, q) ∈ prs (X'.take m))) ∧ s21 = .int .i64 (m : Nat) ∧ wx = wH) (fun _ s21 _ => n' - (intOf s21).toNat)
                  case atStart => exact ⟨0, Nat.zero_le _, by simp [prs], rfl, rfl⟩
                  case round =>
                    obtain ⟨m, hm, rfl, rfl, rfl⟩ := hrel
                    by_cases hmn : m < n'
                    · obtain ⟨⟨⟨u, v⟩, tu⟩, hu⟩ : ∃ e, X'[m]? = some e := ⟨_, List.getElem?_eq_getElem (by omega)⟩
                      obtain ⟨gl, ol, u', e1, -, -, -, hu2, pu, -⟩ := SlI.get (hFH.out.l.sl flat_iv) hmn
                      obtain ⟨gr, or', v', e2, -, -, -, hv2, pv, -⟩ := SlI.get (hFH.out.r.sl flat_iv) hmn
                      obtain rfl : u = u' := by rw [hL'.out.l, List.getElem?_map, hu] at hu2; simpa using hu2
                      obtain rfl : v = v' := by rw [hL'.out.r, List.getElem?_map, hu] at hv2; simpa using hv2
                      have i0 : (0 : Int) ≤ (m : Int) := by omega
                      have i1 : (m : Int) < (n' : Int) := by omega
                      have hsu : prs (X'.take (m + 1)) = prs (X'.take m) ++ [(u, v)] := by
                        unfold prs
                        rw [List.take_add_one, hu]
                        simp
                      clear hu2 hv2
                      subst e1 e2
                      by_cases hkn : (p, q) ∈ prs (X'.take m)
                      · have hk1 : decide ((p, q) ∈ prs (X'.take m)) = true := decide_eq_true hkn
                        have hk2 : Hid ((Value.bool true) = .bool (decide ((p, q) ∈ prs (X'.take (m + 1))))) := by show _ = _; rw [hsu, decide_eq_true (List.mem_append_left _ hkn)]
                        rw [hk1]
                        go_wp2_with fail
                        go_roundw
                        case rel => exact ⟨m + 1, by omega, by first | exact hk2.out | (rw [beq_eq_false_iff_ne.2 (by assumption)]; exact hk2.out), by go_num, trivial⟩
                        case measure => simp [intOf]; omega
                      · have hk1 : decide ((p, q) ∈ prs (X'.take m)) = false := decide_eq_false hkn
                        rw [hk1]
                        by_cases c1 : u = p
                        · have d1 : decide (u = p) = true := decide_eq_true c1
                          by_cases c2 : v = q
                          · have d2 : decide (v = q) = true := decide_eq_true c2
                            have hk2 : Hid ((Value.bool true) = .bool (decide ((p, q) ∈ prs (X'.take (m + 1))))) := by show _ = _; rw [hsu, decide_eq_true (by rw [← c1, ← c2]; simp)]
                            subst c1 c2
                            go_wp2_with fail
                            go_roundw
                            case rel => exact ⟨m + 1, by omega, by first | exact hk2.out | (rw [beq_eq_false_iff_ne.2 (by assumption)]; exact hk2.out), by go_num, trivial⟩
                            case measure => simp [intOf]; omega
                          · have d2 : decide (v = q) = false := decide_eq_false c2
                            have hk2 : Hid ((Value.bool false) = .bool (decide ((p, q) ∈ prs (X'.take (m + 1))))) := by show _ = _; rw [hsu, decide_eq_false (by rw [List.mem_append, List.mem_singleton]; rintro (h | h); exact hkn h; injection h with h1 h2; exact c2 h2.symm)]
                            subst c1
                            go_wp2_with fail
                            go_roundw
                            case rel => exact ⟨m + 1, by omega, by first | exact hk2.out | (rw [beq_eq_false_iff_ne.2 (by assumption)]; exact hk2.out), by go_num, trivial⟩
                            case measure => simp [intOf]; omega
                        · have d1 : decide (u = p) = false := decide_eq_false c1
                          have hk2 : Hid ((Value.bool false) = .bool (decide ((p, q) ∈ prs (X'.take (m + 1))))) := by show _ = _; rw [hsu, decide_eq_false (by rw [List.mem_append, List.mem_singleton]; rintro (h | h); exact hkn h; injection h with h1 h2; exact c1 h1.symm)]
                          go_wp2_with fail
                          go_roundw
                          case rel => exact ⟨m + 1, by omega, by first | exact hk2.out | (rw [beq_eq_false_iff_ne.2 (by assumption)]; exact hk2.out), by go_num, trivial⟩
                          case measure => simp [intOf]; omega
                    · obtain rfl : m = n' := by omega
                      have htk : X'.take m = X' := List.take_of_length_le (by omega)
                      rw [htk]
                      have hjt : Hid (X = X) := rfl
                      have hjJ : J.tail[j - 1]? = some s := by rw [List.getElem?_tail, show j - 1 + 1 = j by omega]; exact hs
                      have hnx : Hid (addU X (scM ((((sA, iA, la, ea)), vsA) : DM) ((((sB, iB, lb, eb)), vsB) : DM) (J.tail.take (j + 1 - 1)) (x, y) t) = if (p, q) ∈ prs X' then X' else X' ++ [((p, q), t ++ [s])]) := by
                        show _ = _
                        rw [show j + 1 - 1 = (j - 1) + 1 by omega, List.take_add_one, hjJ]
                        unfold scM
                        rw [List.map_append]
                        show addU X (_ ++ [((goM ((((sA, iA, la, ea)), vsA) : DM) s x, goM ((((sB, iB, lb, eb)), vsB) : DM) s y), t ++ [s])]) = _
                        rw [addU_app, hpq.out]
                        have h := hX'.out
                        unfold scM at h
                        rw [← h]
                      have hj2 : IntKind.i64.wrap ((j : Int) + 1) = ((j + 1 : Nat) : Int) := by rw [IntWalk.i64_in _ (by omega)]; rfl
                      by_cases hkn : (p, q) ∈ prs X'
                      · rw [if_pos hkn] at hnx
                        rw [decide_eq_true hkn]
                        go_wp2_with fail
                        go_roundw
                        case rel => exact ⟨j + 1, m, X', L', R', F', Y', A', cA', B', cB', C', cC', D', cD', by omega, by omega, hnn, hXn', rfl, rfl, rfl, rfl, by go_num, hx', hFH, hL', hG', hnx.out.symm⟩
                        case measure => simp [intOf]; omega
                      · rw [if_neg hkn] at hnx
                        rw [decide_eq_false hkn]
                        have hsz8 : (m + 1) * 8 ≤ 140737488355328 := by omega
                        have hsz16 : (m + 1) * 16 ≤ 140737488355328 := by omega
                        have hG2 := hide (hG'.out.push (e := ((p, q), t ++ [s])) hkn ⟨hpr, hqr⟩)
                        have hL2 := hide (hL'.out.push hx'.out (p, q) s)
                        clear hn2
                        go_upto_region 31 with fail
                        have hFa1 := hide (hFH.out.alloc (.cells #[.int .i64 p] 2))
                        have hbA1 := hide (Below.alloc (Below.refl wr.heap.size wr) (Nat.le_refl _) (.cells #[.int .i64 p] 2))
                        have hlit1 := hide (Sl.lit1' (f := iv) wr 2 p #[.int .i64 p] rfl 1 _ rfl)
                        have hza1 := hFa1.out.bel.size
                        go_upto_region 32 with (first | (at_builtin; (with_reducible refine wpList_app rfl (.tmp 168) (.tmp 170) rfl hEi.out flat_iv rfl hFa1.out.l rfl hlit1.out hsz8 hza1 ?_); intro Q1 r1 wP1 hown1 hgr1 hb1 hat1))
                        have hF1 := hide (hFa1.out.pushL hgr1 hown1 hat1)
                        clear hFa1 hbA1 hlit1 hza1 hgr1 hb1 hat1 hown1
                        have hFa2 := hide (hF1.out.alloc (.cells #[.int .i64 q] 2))
                        have hbA2 := hide (Below.alloc (Below.refl wP1.heap.size wP1) (Nat.le_refl _) (.cells #[.int .i64 q] 2))
                        have hlit2 := hide (Sl.lit1' (f := iv) wP1 2 q #[.int .i64 q] rfl 1 _ rfl)
                        have hza2 := hFa2.out.bel.size
                        go_upto_region 33 with (first | (at_builtin; (with_reducible refine wpList_app rfl (.tmp 172) (.tmp 174) rfl hEi.out flat_iv rfl hFa2.out.r rfl hlit2.out hsz8 hza2 ?_); intro Q2 r2 wP2 hown2 hgr2 hb2 hat2))
                        have hF2 := hide (hFa2.out.pushR hgr2 hown2 hat2)
                        clear hFa2 hbA2 hlit2 hza2 hgr2 hb2 hat2 hown2
                        have hFa3 := hide (hF2.out.alloc (.cells #[.int .i64 (k : Int)] 3))
                        have hbA3 := hide (Below.alloc (Below.refl wP2.heap.size wP2) (Nat.le_refl _) (.cells #[.int .i64 (k : Int)] 3))
                        have hlit3 := hide (Sl.lit1' (f := iv) wP2 3 (k : Int) #[.int .i64 (k : Int)] rfl 1 _ rfl)
                        have hza3 := hFa3.out.bel.size
                        go_upto_region 34 with (first | (at_builtin; (with_reducible refine wpList_app rfl (.tmp 176) (.tmp 178) rfl hEn.out flat_iv rfl hFa3.out.f rfl hlit3.out hsz8 hza3 ?_); intro Q3 r3 wP3 hown3 hgr3 hb3 hat3))
                        have hF3 := hide (hFa3.out.pushF hgr3 hown3)
                        clear hFa3 hbA3 hlit3 hza3 hgr3 hb3 hat3 hown3
                        have pj3 := hSJ.out wP3 hF3.out.bel
                        have hFa4 := hide (hF3.out.alloc (.cells #[.string s] 9))
                        have hlit4 := hide (Sl.lit1' (f := strv) wP3 9 s #[.string s] rfl 1 _ rfl)
                        have hza4 := hFa4.out.bel.size
                        go_wp2_with (first | (at_builtin; (with_reducible refine wpList_app rfl (.tmp 180) (.tmp 185) rfl hE.out flat_strv rfl hFa4.out.y rfl hlit4.out hsz16 hza4 ?_); intro Q4 r4 wP4 hown4 hgr4 hb4 hat4))
                        have hF4 := hide (hFa4.out.pushY hgr4 hown4)
                        clear hFa4 hlit4 hza4 hgr4 hb4 hat4 hown4
                        go_roundw
                        case rel => exact ⟨j + 1, m + 1, X' ++ [((p, q), t ++ [s])], _, _, _, _, Q1, r1, Q2, r2, Q3, r3, Q4, r4, by omega, by omega, by omega, by rw [List.length_append, hXn']; rfl, rfl, rfl, rfl, rfl, by go_num, (List.getElem?_append_left (by omega)).trans hx'.out, hF4.out, hL2.out, hG2.out, hnx.out.symm⟩
                        case measure => simp [intOf]; omega
                · have hJt : J.tail.take (j - 1) = J.tail := List.take_of_length_le (by have := hJh.out.len; rw [List.length_tail]; omega)
                  have hR3 : Hid (∀ r, RRun (scM ((((sA, iA, la, ea)), vsA) : DM) ((((sB, iB, lb, eb)), vsB) : DM) J.tail) (badR ((((sA, iA, la, ea)), vsA) : DM) ((((sB, iB, lb, eb)), vsB) : DM)) (stopR ((((sA, iA, la, ea)), vsA) : DM)) X' (k + 1) r → RRun (scM ((((sA, iA, la, ea)), vsA) : DM) ((((sB, iB, lb, eb)), vsB) : DM) J.tail) (badR ((((sA, iA, la, ea)), vsA) : DM) ((((sB, iB, lb, eb)), vsB) : DM)) (stopR ((((sA, iA, la, ea)), vsA) : DM)) [((iA, iB), [])] 0 r) := by show ∀ _, _; rw [hX'.out, hJt]; exact hR2.out
                  have hk2 : IntKind.i64.wrap ((k : Int) + 1) = ((k + 1 : Nat) : Int) := by rw [IntWalk.i64_in _ (by omega)]; rfl
                  clear hR2 hX' hx'
                  go_wp2_with fail
                  go_roundw
                  case rel => exact ⟨k + 1, n', X', L', R', F', Y', A', cA', B', cB', C', cC', D', cD', by omega, hXn', rfl, rfl, rfl, rfl, by go_num, hF', hL', hG', hR3⟩
                  case measure => simp [intOf]; omega
    · obtain rfl : k = n := by omega
      go_wp2_with fail
      go_ret2
      exact ⟨none, hR.out _ (RRun.nil (by omega)), rfl, hbr.out⟩
end Go.Proofs.YtnhomkmfbngmgaaGreatDoor

namespace Go.Proofs.YtnhomkmfbngmgaaGreatDoor
open Go.ChangeShapes Go.WideShapes Go.ChangeAt Go.RowKit
set_option linter.unusedVariables false
set_option linter.unusedSimpArgs false

theorem addU_all {β : Type} {P : Nat → PT β → Prop} : ∀ (M L : List (PT β)), (∀ j e, L[j]? = some e → P j e) → (∀ e ∈ M, ∀ j, L.length ≤ j → P j e) → ∀ j e, (addU L M)[j]? = some e → P j e
  | [], L, h, _ => h
  | e :: M, L, h, g => by
    unfold addU
    refine addU_all M _ (fun j x hx => ?_) fun x hx j hj => ?_
    · split at hx
      · exact h j x hx
      · rcases Nat.lt_or_ge j L.length with h1 | h1
        · rw [List.getElem?_append_left h1] at hx
          exact h j x hx
        · rw [List.getElem?_append_right h1] at hx
          have h2 : j - L.length = 0 := by
            have := (List.getElem?_eq_some_iff.1 hx).1
            simp at this
            omega
          rw [h2] at hx
          cases hx
          exact g e (List.mem_cons_self ..) j h1
    · refine g x (List.mem_cons_of_mem _ hx) j ?_
      split at hj
      · exact hj
      · rw [List.length_append] at hj
        omega
theorem addU_range {sA sB : Int} : ∀ (M X : List (PT ByteArray)), RangeS sA sB X → (∀ e ∈ M, (-1 ≤ e.1.1 ∧ e.1.1 ≤ sA - 1) ∧ -1 ≤ e.1.2 ∧ e.1.2 ≤ sB - 1) → RangeS sA sB (addU X M)
  | [], X, h, _ => h
  | e :: M, X, h, g => by
    unfold addU
    refine addU_range M _ ?_ fun x hx => g x (List.mem_cons_of_mem _ hx)
    split
    · exact h
    · rename_i hn
      exact h.push hn (g e (List.mem_cons_self ..))
section
variable {sA iA sB iB : Int} {la lb J : List ByteArray} {ea eb : List Ed} {vsA vsB : List Int}
theorem scM_range (va : ltsV (sA, iA, la, ea) = true) (vb : ltsV (sB, iB, lb, eb) = true) (x : Int × Int) (t : List ByteArray) : ∀ e ∈ scM ((sA, iA, la, ea), vsA) ((sB, iB, lb, eb), vsB) J x t, (-1 ≤ e.1.1 ∧ e.1.1 ≤ sA - 1) ∧ -1 ≤ e.1.2 ∧ e.1.2 ≤ sB - 1 := fun e he => by
  unfold scM at he
  obtain ⟨s, -, rfl⟩ := List.mem_map.1 he
  exact ⟨goE_range va s x.1, goE_range vb s x.2⟩
theorem rrun_ex (va : ltsV (sA, iA, la, ea) = true) (vb : ltsV (sB, iB, lb, eb) = true) (bad stop : Int × Int → Bool) : ∀ (f : Nat) (L : List (PT ByteArray)) (i : Nat), RangeS sA sB L → 1682 ≤ f + i → ∃ r, RRun (scM ((sA, iA, la, ea), vsA) ((sB, iB, lb, eb), vsB) J) bad stop L i r
  | 0, L, i, h, hf => by
    have h1 := (lts_states va).1
    have h2 := (lts_states vb).1
    have h3 := h.len h1.2 h2.2
    exact ⟨none, .nil (by omega)⟩
  | f + 1, L, i, h, hf => by
    by_cases hi : L.length ≤ i
    · exact ⟨none, .nil hi⟩
    obtain ⟨⟨x, t⟩, hx⟩ : ∃ e, L[i]? = some e := ⟨_, List.getElem?_eq_getElem (by omega)⟩
    cases hb : bad x with
    | true => exact ⟨some t, .hit hx hb⟩
    | false =>
      cases hs : stop x with
      | true =>
        obtain ⟨r, hr⟩ := rrun_ex va vb bad stop f L (i + 1) h (by omega)
        exact ⟨r, .stop hx hb hs hr⟩
      | false =>
        obtain ⟨r, hr⟩ := rrun_ex va vb bad stop f _ (i + 1) (addU_range _ L h (scM_range va vb x t)) (by omega)
        exact ⟨r, .go hx hb hs hr⟩
theorem rrun_good (va : ltsV (sA, iA, la, ea) = true) (vb : ltsV (sB, iB, lb, eb) = true) {bad stop : Int × Int → Bool} {L : List (PT ByteArray)} {i : Nat} {r : Option (List ByteArray)} (h : RRun (scM ((sA, iA, la, ea), vsA) ((sB, iB, lb, eb), vsB) J) bad stop L i r) :
    RangeS sA sB L → (∀ (j : Nat) (e : PT ByteArray), L[j]? = some e → e.2.length ≤ j ∧ ∀ s ∈ e.2, s ∈ J) → ∀ t, r = some t → t.length ≤ 1681 ∧ ∀ s ∈ t, s ∈ J := by
  have h1 := (lts_states va).1
  have h2 := (lts_states vb).1
  induction h with
  | nil h => intro _ _ t ht; cases ht
  | @hit L i x t hx hb =>
    intro hr hg u hu
    cases hu
    have h3 := hr.len h1.2 h2.2
    have h4 := (List.getElem?_eq_some_iff.1 hx).1
    have h5 := hg i _ hx
    exact ⟨Nat.le_trans h5.1 (by omega), h5.2⟩
  | stop hx hb hs g ih => exact ih
  | @go L i x t r hx hb hs g ih =>
    intro hr hg
    have h5 := hg i _ hx
    have h4 := (List.getElem?_eq_some_iff.1 hx).1
    refine ih (addU_range _ L hr (scM_range va vb x t)) (addU_all (P := fun (j : Nat) (e : PT ByteArray) => e.2.length ≤ j ∧ ∀ s ∈ e.2, s ∈ J) _ L hg fun e he j hj => ?_)
    unfold scM at he
    obtain ⟨s, hs2, rfl⟩ := List.mem_map.1 he
    refine ⟨?_, fun q hq => ?_⟩
    · show (t ++ [s]).length ≤ j
      rw [List.length_append]
      have : t.length ≤ i := h5.1
      show t.length + 1 ≤ j
      omega
    · rcases List.mem_append.1 hq with hq | hq
      · exact h5.2 q hq
      · rw [List.mem_singleton.1 hq]; exact hs2
/-- The search from the initial states: it ends, and its answer is short and made of labels. -/
theorem sam_good (va : ltsV (sA, iA, la, ea) = true) (vb : ltsV (sB, iB, lb, eb) = true) : ∃ r, RRun (scM ((sA, iA, la, ea), vsA) ((sB, iB, lb, eb), vsB) (joiF (la ++ lb)).tail) (badR ((sA, iA, la, ea), vsA) ((sB, iB, lb, eb), vsB)) (stopR ((sA, iA, la, ea), vsA)) [((iA, iB), [])] 0 r ∧ ∀ t, r = some t → t.length ≤ 1681 ∧ ∀ s ∈ t, s = tauB ∨ s ∈ la ∨ s ∈ lb := by
  have h1 := (lts_states va).2
  have h2 := (lts_states vb).2
  have hR := RangeS.start (sA := sA) (sB := sB) iA iB h1 h2
  obtain ⟨r, hr⟩ := rrun_ex (J := (joiF (la ++ lb)).tail) (vsA := vsA) (vsB := vsB) va vb (badR ((sA, iA, la, ea), vsA) ((sB, iB, lb, eb), vsB)) (stopR ((sA, iA, la, ea), vsA)) 1682 _ 0 hR (by omega)
  refine ⟨r, hr, fun t ht => ?_⟩
  have h3 := rrun_good va vb hr hR (fun j e he => by
    match j, he with
    | 0, he => cases he; exact ⟨Nat.le_refl _, fun s hs => by cases hs⟩
    | j + 1, he => cases he) t ht
  refine ⟨h3.1, fun s hs => ?_⟩
  rcases (joi_mem_iff _ _).1 (List.mem_of_mem_tail (h3.2 s hs)) with e | e
  · exact .inl e
  · exact .inr (List.mem_append.1 e)
end
end Go.Proofs.YtnhomkmfbngmgaaGreatDoor
