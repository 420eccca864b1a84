/-
  Several texts in one:
  Lists of bool and of numbers in memory. Conditions: at most 1048576 elements.
  A world but for one block. Conditions: none.
  Tables of answers, and least sets of pairs: plain. Conditions: none.
  What internal edges reach from some states: plain. Conditions: none.
  Classes by the first state of each, and the normal form of a list: plain. Conditions: none.
  The edges from a state, by the program. Conditions: sizes.
  Rounds of simulations: plain. Conditions: none.
  The greatest simulation: plain. Conditions: none.
  Sets of states while they are closed under internal edges; where a set lies. Conditions: none.
  Finding a text in a list, the ends of edges with a label, and whether lists of texts are the same, by the reference. Conditions: sizes.
-/
import Derived.Test.YthlaoedpjloloaaGreatDoorBaseA
import Derived.Test.YthlaoedpjloloaaGreatDoorBaseB
import Derived.Outline
import Derived.WalkSpells
import Derived.Laws.CopyOwn
import Derived.Laws.Bits64b
import Derived.StillTailTactics
import Derived.Deep.RegionLaw
import Derived.Deep.LoopGhost
import Derived.OneCell
import Derived.Test.YthlaoedpjloloaaGreatDoorBaseE
import Derived.Test.YthlaoedpjloloaaGreatDoorBaseC
namespace Go.Proofs.YthlaoedpjloloaaGreatDoor
open Go.ChangeShapes Go.WideShapes Go.ChangeAt Go.RowKit
set_option linter.unusedVariables false
set_option linter.unusedSimpArgs false

/-- A set of vertices as a list of answers. -/
def inS (s : List Bool) (v : Nat) : Bool := s[v]?.getD false
theorem inS_some {s : List Bool} {v : Nat} {b : Bool} (h : s[v]? = some b) : inS s v = b := by unfold inS; rw [h]; rfl
theorem inS_lt {s : List Bool} {v : Nat} (h : inS s v = true) : v < s.length := by
  unfold inS at h
  cases e : s[v]? with
  | none => rw [e] at h; cases h
  | some b => exact (List.getElem?_eq_some_iff.1 e).1
theorem inS_big {s : List Bool} {v : Nat} (h : s.length ≤ v) : inS s v = false := by unfold inS; rw [List.getElem?_eq_none h]; rfl
theorem inS_get {s : List Bool} {v : Nat} (h : v < s.length) : s[v]? = some (inS s v) := by unfold inS; rw [List.getElem?_eq_getElem h]; rfl
theorem inS_set {s : List Bool} {v u : Nat} {b : Bool} (h : v < s.length) : inS (s.set v b) u = if v = u then b else inS s u := by
  unfold inS
  by_cases e : v = u
  · subst e; rw [List.getElem?_set_self h]; simp
  · rw [List.getElem?_set_ne e]; simp [e]
theorem inS_ext {s t : List Bool} (hl : s.length = t.length) (h : ∀ v, v < s.length → inS s v = inS t v) : s = t := by
  apply List.ext_getElem?
  intro i
  by_cases hi : i < s.length
  · rw [inS_get hi, inS_get (by omega), h i hi]
  · rw [List.getElem?_eq_none (by omega), List.getElem?_eq_none (by omega)]
/-- The set of those below n that are as asked. -/
def setOf (n : Nat) (p : Nat → Bool) : List Bool := (List.range n).map p
theorem setOf_len (n : Nat) (p : Nat → Bool) : (setOf n p).length = n := by simp [setOf]
theorem setOf_get {n : Nat} {p : Nat → Bool} {v : Nat} (h : v < n) : (setOf n p)[v]? = some (p v) := by simp [setOf, h]
theorem inS_setOf {n : Nat} {p : Nat → Bool} {v : Nat} : inS (setOf n p) v = (decide (v < n) && p v) := by
  by_cases h : v < n
  · rw [inS_some (setOf_get h)]; simp [h]
  · rw [inS_big (by rw [setOf_len]; omega)]; simp [h]
theorem setOf_inS {s : List Bool} {n : Nat} (h : s.length = n) : setOf n (inS s) = s := by
  subst h
  exact inS_ext (setOf_len _ _) fun v hv => by rw [setOf_len] at hv; rw [inS_setOf]; simp [hv]
theorem setOf_congr {n : Nat} {p q : Nat → Bool} (h : ∀ v, v < n → p v = q v) : setOf n p = setOf n q := by
  unfold setOf
  apply List.map_congr_left
  intro v hv
  exact h v (List.mem_range.1 hv)

/-- A bool. -/
def bv (b : Bool) : List Value := [.bool b]
abbrev SlB := Sl 1 bv
theorem flat_bv : Flat bv 1 := ⟨fun _ => rfl, fun x u h => by simp [bv] at h; subst h; rfl⟩
theorem info_bool : (Tryz.prog.info? 4).map (fun i => (i.zero, i.size, i.bytes)) = some (some (.bool false), 1, 1) := by kernel_rfl
theorem elem_bool : Elem Tryz.prog 66 4 1 1 := Elem.of Tryz.underlying66 info_bool rfl (by omega) (by omega)
theorem elem_int64 : Elem Tryz.prog 37 2 1 8 := Elem.of Tryz.underlying37 info_int64 rfl (by omega) (by omega)

section
variable {w w' : World} {lo hi n : Nat} {A : Option Addr}
theorem SlB.get {l : List Bool} (h : SlB w lo hi A n l) {k : Nat} (hk : k < n) :
    ∃ b off, A = some ⟨b, off, none⟩ ∧ lo ≤ b ∧ b < hi ∧ b < w.heap.size ∧ l[k]? = some (inS l k) ∧ w.cell? ⟨b, off + k, none⟩ = some (.bool (inS l k)) ∧ w.frozen? ⟨b, off + k, none⟩ = false := by
  obtain ⟨b, off, e, g1, g2, g3, hc⟩ := h.at_ (by omega)
  have hl : k < l.length := by rw [h.len]; exact hk
  have h0 := hc k (inS l k) (inS_get hl) 0 _ rfl
  simp only [Nat.mul_one, Nat.add_zero] at h0
  exact ⟨b, off, e, g1, g2, g3, inS_get hl, h0.1, h0.2⟩
theorem SlB.put {b off : Nat} {l : List Bool} (h : SlB w lo hi (some ⟨b, off, none⟩) n l) {k : Nat} (hk : k < n) (x : Bool) : SlB (w.setCell ⟨b, off + k, none⟩ (.bool x)) lo hi (some ⟨b, off, none⟩) n (l.set k x) := by
  have := h.putN hk (fun _ => rfl) x
  simpa [putCells, bv] using this
theorem SlI.put' {b off : Nat} {l : List Int} (h : SlI w lo hi (some ⟨b, off, none⟩) n l) {k : Nat} (hk : k < n) (x : Int) : SlI (w.setCell ⟨b, off + k, none⟩ (.int .i64 x)) lo hi (some ⟨b, off, none⟩) n (l.set k x) := h.put hk x
end

/-- Made by make([]bool, n). -/
theorem SlB.made (w : World) (n : Nat) : SlB (w.alloc (.cells (madeCells #[.bool false] n) 4)) w.heap.size (w.heap.size + 1) (some ⟨w.heap.size, 0, none⟩) n (setOf n fun _ => false) := by
  refine ⟨setOf_len _ _, fun hn => ⟨w.heap.size, 0, rfl, Nat.le_refl _, by omega, by simp, fun k x hx j u hu => ?_⟩⟩
  have hk : k < n := by
    have := (List.getElem?_eq_some_iff.1 hx).1
    rwa [setOf_len] at this
  rw [setOf_get hk] at hx
  cases hx
  have hj : j = 0 := by
    have := (List.getElem?_eq_some_iff.1 hu).1
    simp [bv] at this
    exact this
  subst hj
  simp [bv] at hu
  subst hu
  have hg := heap_alloc_new w (.cells (madeCells #[.bool false] n) 4)
  refine ⟨(cell_of_row _ _ _ _ _ (0, 0) hg).trans ?_, frozen_of_row _ _ _ _ _ hg⟩
  simp [madeCells, Value.cells, hk, Nat.mod_one]

theorem run_make_bool (n : Nat) (hn : n ≤ 1048576) (W : World) : (Instr.makeSlice 66 (.int .i64 (n : Int)) (.int .i64 (n : Int))).run Tryz.prog W = .ok (.slice (some ⟨W.heap.size, 0, none⟩) n n) (W.alloc (.cells (madeCells #[.bool false] n) 4)) := by
  obtain ⟨i0, hi0, hz0, hz1, hz2⟩ := info_parts info_bool
  have h := make_row (P := Tryz.prog) 66 4 i0 _ _ n Tryz.underlying66 hi0 hz0 hz1 (by rw [hz2]; omega) (by omega) W
  rw [Nat.mul_one] at h
  exact h

/-- A list of which the first k places are filled. -/
def intK (n k : Nat) (p : Nat → Int) : List Int := (List.range n).map fun v => if v < k then p v else 0
theorem intK_len (n k : Nat) (p : Nat → Int) : (intK n k p).length = n := by simp [intK]
theorem intK_all (n : Nat) (p : Nat → Int) : intK n n p = (List.range n).map p := by
  unfold intK
  apply List.map_congr_left
  intro v hv
  rw [if_pos (List.mem_range.1 hv)]
theorem intK_step {n k : Nat} {p : Nat → Int} (hk : k < n) : (intK n k p).set k (p k) = intK n (k + 1) p := by
  apply List.ext_getElem?
  intro i
  by_cases e : k = i
  · subst e
    rw [List.getElem?_set_self (by rw [intK_len]; exact hk)]
    simp [intK, hk]
  · rw [List.getElem?_set_ne e]
    by_cases hi : i < n
    · simp only [intK, List.getElem?_map, List.getElem?_range hi, Option.map_some]
      have : (i < k) ↔ (i < k + 1) := by omega
      simp [this]
    · rw [List.getElem?_eq_none (by rw [intK_len]; omega), List.getElem?_eq_none (by rw [intK_len]; omega)]
theorem run_make_int (n : Nat) (hn : n ≤ 1048576) (W : World) : (Instr.makeSlice 37 (.int .i64 (n : Int)) (.int .i64 (n : Int))).run Tryz.prog W = .ok (.slice (some ⟨W.heap.size, 0, none⟩) n n) (W.alloc (.cells (madeCells #[.int .i64 0] n) 2)) := by
  obtain ⟨i0, hi0, hz0, hz1, hz2⟩ := info_parts info_int64
  have h := make_row (P := Tryz.prog) 37 2 i0 _ _ n Tryz.underlying37 hi0 hz0 hz1 (by rw [hz2]; omega) (by omega) W
  rw [Nat.mul_one] at h
  exact h
theorem SlI.made (w : World) (n : Nat) (p : Nat → Int) : SlI (w.alloc (.cells (madeCells #[.int .i64 0] n) 2)) w.heap.size (w.heap.size + 1) (some ⟨w.heap.size, 0, none⟩) n (intK n 0 p) := by
  refine ⟨intK_len _ _ _, fun hn => ⟨w.heap.size, 0, rfl, Nat.le_refl _, by omega, by simp, fun k x hx j u hu => ?_⟩⟩
  have hk : k < n := by
    have := (List.getElem?_eq_some_iff.1 hx).1
    rwa [intK_len] at this
  have hx0 : x = 0 := by
    simp only [intK, List.getElem?_map, List.getElem?_range hk, Option.map_some] at hx
    simp at hx
    exact hx.symm
  subst hx0
  have hj : j = 0 := by
    have := (List.getElem?_eq_some_iff.1 hu).1
    simp [iv] at this
    exact this
  subst hj
  simp [iv] at hu
  subst hu
  have hg := heap_alloc_new w (.cells (madeCells #[.int .i64 0] n) 2)
  refine ⟨(cell_of_row _ _ _ _ _ (0, 0) hg).trans ?_, frozen_of_row _ _ _ _ _ hg⟩
  simp [madeCells, hk, Nat.mod_one]

end Go.Proofs.YthlaoedpjloloaaGreatDoor

namespace Go.Proofs.YthlaoedpjloloaaGreatDoor
open Go.ChangeShapes Go.WideShapes Go.ChangeAt Go.RowKit
set_option linter.unusedVariables false

/-- w' is w but for one block, and new blocks. -/
structure Sav (x : Nat) (w w' : World) : Prop where
  os : w'.os = w.os
  tape : w'.tape = w.tape
  output : w'.output = w.output
  size : w.heap.size ≤ w'.heap.size
  block : ∀ b, b < w.heap.size → b ≠ x → w'.heap[b]? = w.heap[b]?
theorem Sav.refl (x : Nat) (w : World) : Sav x w w := ⟨rfl, rfl, rfl, Nat.le_refl _, fun _ _ _ => rfl⟩
theorem Sav.trans {x : Nat} {a b c : World} (h : Sav x a b) (g : Sav x b c) : Sav x a c :=
  ⟨g.os.trans h.os, g.tape.trans h.tape, g.output.trans h.output, Nat.le_trans h.size g.size, fun y hy hn => (g.block y (Nat.lt_of_lt_of_le hy h.size) hn).trans (h.block y hy hn)⟩
theorem Sav.of_below {x : Nat} {w w' : World} (h : Below w.heap.size w w') : Sav x w w' := ⟨h.os, h.tape, h.output, h.size, fun b hb _ => h.block b hb⟩
theorem Sav.below {x : Nat} {w w' : World} {B : Nat} (h : Sav x w w') (hx : B ≤ x) (hB : B ≤ w.heap.size) : Below B w w' :=
  ⟨h.os, h.tape, h.output, h.size, fun b hb => h.block b (by omega) (by omega)⟩
theorem Sav.set (w : World) (p : Addr) (u : Value) : Sav p.block w (w.setCell p u) := ⟨rfl, rfl, rfl, by rw [World.size_setCell]; exact Nat.le_refl _, fun b hb hn => Below.heap_setCell _ _ _ _ hn⟩
theorem Sav.kept {x : Nat} {w w' : World} (h : Sav x w w') {b : Nat} {o : Obj} (hb : w.heap[b]? = some o) (hn : b ≠ x) : w'.heap[b]? = some o := (h.block b (Array.getElem?_eq_some_iff.1 hb).1 hn).trans hb

theorem Sav.cell {x : Nat} {w w' : World} (h : Sav x w w') {p : Addr} {v : Value} (hp : w.cell? p = some v) (hl : p.block < w.heap.size) (hn : p.block ≠ x) : w'.cell? p = some v := (World.cell?_of_block (w := w) (by simpa using h.block p.block hl hn)).trans hp

end Go.Proofs.YthlaoedpjloloaaGreatDoor

namespace Go.Proofs.YthlaoedpjloloaaGreatDoor
set_option linter.unusedVariables false
set_option linter.unusedSimpArgs false

abbrev Rel2 := Int → Int → Prop
/-- The least set of pairs in R that is closed under F. -/
def Lf (R : Rel2) (F : Rel2 → Rel2) (x y : Int) : Prop := ∀ D : Rel2, (∀ x y, R x y → F D x y → D x y) → D x y
def MonoF (F : Rel2 → Rel2) : Prop := ∀ D E : Rel2, (∀ x y, D x y → E x y) → ∀ x y, F D x y → F E x y
theorem Lf.add {R : Rel2} {F : Rel2 → Rel2} (hm : MonoF F) {x y : Int} (hR : R x y) (h : F (Lf R F) x y) : Lf R F x y := fun D hD => hD x y hR (hm _ _ (fun u v h => h D hD) x y h)
theorem Lf.done {R : Rel2} {F : Rel2 → Rel2} {D : Rel2} (hs : ∀ x y, D x y → Lf R F x y) (hc : ∀ x y, R x y → F D x y → D x y) (x y : Int) : D x y ↔ Lf R F x y := ⟨hs x y, fun h => h D hc⟩

theorem count_set {b : Bool} : ∀ {l : List Bool} {i : Nat}, l[i]? = some b → (l.set i (!b)).count b + 1 = l.count b
  | [], i, h => by simp at h
  | a :: l, 0, h => by
    simp at h
    subst h
    cases a <;> simp [List.count_cons]
  | a :: l, i + 1, h => by
    have := count_set (l := l) (i := i) (by simpa using h)
    simp only [List.set_cons_succ, List.count_cons]
    omega

/-- A table of rows of answers. -/
def getM (M : List (List Bool)) (x y : Nat) : Option Bool := M[x]?.bind fun r => r[y]?
def setM (M : List (List Bool)) (x y : Nat) (b : Bool) : List (List Bool) := M.set x ((M[x]?.getD []).set y b)
def cntM (b : Bool) (M : List (List Bool)) : Nat := (M.map (List.count b)).sum
theorem getM_row {M : List (List Bool)} {x y : Nat} {b : Bool} (h : getM M x y = some b) : ∃ r, M[x]? = some r ∧ r[y]? = some b := by
  unfold getM at h
  cases hr : M[x]? with
  | none => rw [hr] at h; cases h
  | some r => rw [hr] at h; exact ⟨r, rfl, h⟩
theorem cntM_row {b : Bool} : ∀ {M : List (List Bool)} {x : Nat} {r r' : List Bool}, M[x]? = some r → r'.count b + 1 = r.count b → cntM b (M.set x r') + 1 = cntM b M
  | [], x, r, r', h, _ => by simp at h
  | a :: M, 0, r, r', h, g => by
    simp at h
    subst h
    simp only [cntM, List.set_cons_zero, List.map_cons, List.sum_cons]
    omega
  | a :: M, x + 1, r, r', h, g => by
    have := cntM_row (M := M) (x := x) (by simpa using h) g
    simp only [cntM, List.set_cons_succ, List.map_cons, List.sum_cons] at this ⊢
    omega
theorem cntM_set {b : Bool} {M : List (List Bool)} {x y : Nat} (h : getM M x y = some b) : cntM b (setM M x y (!b)) + 1 = cntM b M := by
  obtain ⟨r, h1, h2⟩ := getM_row h
  unfold setM
  rw [h1]
  exact cntM_row h1 (count_set h2)
theorem getM_set {M : List (List Bool)} {x y : Nat} {b c : Bool} (h : getM M x y = some b) (u v : Nat) : getM (setM M x y c) u v = if u = x ∧ v = y then some c else getM M u v := by
  obtain ⟨r, h1, h2⟩ := getM_row h
  have hx := (List.getElem?_eq_some_iff.1 h1).1
  have hy := (List.getElem?_eq_some_iff.1 h2).1
  unfold setM getM
  rw [h1]
  by_cases hu : u = x
  · subst hu
    rw [List.getElem?_set_self hx, h1]
    simp only [Option.getD_some, Option.bind_some, true_and]
    by_cases hv : v = y
    · subst hv
      rw [List.getElem?_set_self hy, if_pos rfl]
    · rw [List.getElem?_set_ne (fun e => hv e.symm), if_neg hv]
  · rw [List.getElem?_set_ne (fun e => hu e.symm), if_neg (fun e => hu e.1)]
/-- n rows of p answers. -/
def ShM (n p : Nat) (M : List (List Bool)) : Prop := M.length = n ∧ ∀ r, r ∈ M → r.length = p
theorem ShM.get {n p : Nat} {M : List (List Bool)} (h : ShM n p M) {x y : Nat} (hx : x < n) (hy : y < p) : ∃ r b, M[x]? = some r ∧ r.length = p ∧ r[y]? = some b ∧ getM M x y = some b := by
  have h1 : M[x]? = some (M[x]'(by rw [h.1]; exact hx)) := List.getElem?_eq_getElem _
  have h2 := h.2 _ (List.mem_of_getElem? h1)
  have h3 : (M[x]'(by rw [h.1]; exact hx))[y]? = some ((M[x]'(by rw [h.1]; exact hx))[y]'(by rw [h2]; exact hy)) := List.getElem?_eq_getElem _
  exact ⟨_, _, h1, h2, h3, by unfold getM; rw [h1]; exact h3⟩
theorem ShM.set {n p : Nat} {M : List (List Bool)} (h : ShM n p M) {x y : Nat} (c : Bool) (hx : x < n) : ShM n p (setM M x y c) := by
  refine ⟨by unfold setM; rw [List.length_set]; exact h.1, fun r hr => ?_⟩
  unfold setM at hr
  rcases List.mem_or_eq_of_mem_set hr with h1 | h1
  · exact h.2 r h1
  · subst h1
    have h2 : M[x]? = some (M[x]'(by rw [h.1]; exact hx)) := List.getElem?_eq_getElem _
    rw [h2, List.length_set]
    exact h.2 _ (List.mem_of_getElem? h2)
theorem ShM.lt {n p : Nat} {M : List (List Bool)} (h : ShM n p M) {x y : Nat} {b : Bool} (hb : getM M x y = some b) : x < n ∧ y < p := by
  obtain ⟨r, h1, h2⟩ := getM_row hb
  have hx := (List.getElem?_eq_some_iff.1 h1).1
  have hy := (List.getElem?_eq_some_iff.1 h2).1
  rw [h.1] at hx
  rw [h.2 r (List.mem_of_getElem? h1)] at hy
  exact ⟨hx, hy⟩
theorem cntM_le {b : Bool} {p : Nat} : ∀ {M : List (List Bool)}, (∀ r, r ∈ M → r.length = p) → cntM b M ≤ M.length * p
  | [], _ => by simp [cntM]
  | r :: M, h => by
    have h1 := cntM_le (b := b) (M := M) fun q hq => h q (List.mem_cons_of_mem _ hq)
    have h2 : r.count b ≤ r.length := List.count_le_length
    rw [h r (List.mem_cons_self ..)] at h2
    simp only [cntM, List.map_cons, List.sum_cons, List.length_cons] at h1 ⊢
    rw [Nat.add_mul, Nat.one_mul]
    omega
def fillM (n p : Nat) (b : Bool) : List (List Bool) := List.replicate n (List.replicate p b)
theorem fillM_sh (n p : Nat) (b : Bool) : ShM n p (fillM n p b) := ⟨by simp [fillM], fun r hr => by rw [List.eq_of_mem_replicate hr, List.length_replicate]⟩
theorem fillM_get {n p : Nat} {b c : Bool} {x y : Nat} (h : getM (fillM n p b) x y = some c) : c = b := by
  obtain ⟨r, h1, h2⟩ := getM_row h
  have h3 := List.eq_of_mem_replicate (List.mem_of_getElem? h1)
  subst h3
  exact List.eq_of_mem_replicate (List.mem_of_getElem? h2)

/-- The pairs that are changed. -/
def ChM (b : Bool) (M : List (List Bool)) (x y : Int) : Prop := 0 ≤ x ∧ 0 ≤ y ∧ getM M x.toNat y.toNat = some (!b)
def RgN (n p : Nat) (x y : Int) : Prop := (0 ≤ x ∧ x < (n : Int)) ∧ 0 ≤ y ∧ y < (p : Int)
/-- The table while it is settled: what is changed is in the least set. -/
structure SetI (b : Bool) (n p : Nat) (F : Rel2 → Rel2) (M : List (List Bool)) : Prop where
  sh : ShM n p M
  sound : ∀ x y, ChM b M x y → Lf (RgN n p) F x y
theorem SetI.start (b : Bool) (n p : Nat) (F : Rel2 → Rel2) : SetI b n p F (fillM n p b) :=
  ⟨fillM_sh _ _ _, fun x y h => by have := fillM_get h.2.2; cases b <;> cases this⟩
theorem SetI.change {b : Bool} {n p : Nat} {F : Rel2 → Rel2} {M : List (List Bool)} (h : SetI b n p F M) (hm : MonoF F) {x y : Nat} (hx : x < n) (hg : getM M x y = some b) (hF : F (ChM b M) (x : Int) (y : Int)) : SetI b n p F (setM M x y (!b)) := by
  refine ⟨h.sh.set _ hx, fun u v hc => ?_⟩
  obtain ⟨h0, h1, h2⟩ := hc
  rw [getM_set hg] at h2
  split at h2
  · rename_i e
    have eu : u = (x : Int) := by omega
    have ev : v = (y : Int) := by omega
    subst eu ev
    have := (h.sh.lt hg).2
    exact Lf.add hm ⟨by omega, by omega⟩ (hm _ _ h.sound _ _ hF)
  · exact h.sound u v ⟨h0, h1, h2⟩
/-- All pairs ahead of (x, y) are closed. -/
def ClosedTo (b : Bool) (p : Nat) (F : Rel2 → Rel2) (M : List (List Bool)) (x y : Nat) : Prop := ∀ u v : Nat, v < p → (u < x ∨ u = x ∧ v < y) → F (ChM b M) (u : Int) (v : Int) → ChM b M (u : Int) (v : Int)
theorem ClosedTo.start (b : Bool) (p : Nat) (F : Rel2 → Rel2) (M : List (List Bool)) : ClosedTo b p F M 0 0 := fun u v hv h => by omega
theorem ClosedTo.next {b : Bool} {p : Nat} {F : Rel2 → Rel2} {M : List (List Bool)} {x y : Nat} (h : ClosedTo b p F M x y) (hn : F (ChM b M) (x : Int) (y : Int) → ChM b M (x : Int) (y : Int)) : ClosedTo b p F M x (y + 1) := fun u v hv hl => by
  by_cases e : u = x ∧ v = y
  · obtain ⟨rfl, rfl⟩ := e
    exact hn
  · exact h u v hv (by omega)
theorem ClosedTo.row {b : Bool} {p : Nat} {F : Rel2 → Rel2} {M : List (List Bool)} {x : Nat} (h : ClosedTo b p F M x p) : ClosedTo b p F M (x + 1) 0 := fun u v hv hl => h u v hv (by omega)
theorem SetI.done {b : Bool} {n p : Nat} {F : Rel2 → Rel2} {M : List (List Bool)} (h : SetI b n p F M) (hc : ClosedTo b p F M n 0) (x y : Int) : ChM b M x y ↔ Lf (RgN n p) F x y := by
  refine Lf.done h.sound (fun u v hR hF => ?_) x y
  obtain ⟨⟨h1, h2⟩, h3, h4⟩ := hR
  have := hc u.toNat v.toNat (by omega) (.inl (by omega))
  rw [Int.toNat_of_nonneg h1, Int.toNat_of_nonneg h3] at this
  exact this hF

end Go.Proofs.YthlaoedpjloloaaGreatDoor

namespace Go.Proofs.YthlaoedpjloloaaGreatDoor
set_option linter.unusedVariables false
set_option linter.unusedSimpArgs false

/-- Reached from the states with P by internal edges. -/
inductive TauC (es : List Ed) (ls : List ByteArray) (P : Int → Prop) : Int → Prop where
  | base {v : Int} (h : P v) : TauC es ls P v
  | step {e : Ed} (h : TauC es ls P e.1) (he : e ∈ es) (hl : ls[e.2.1.toNat]? = some tauB) : TauC es ls P e.2.2

/-- Reached from the states with P by a label, then by internal edges. -/
def VisC (es : List Ed) (ls : List ByteArray) (P : Int → Prop) (lab : ByteArray) : Int → Prop := TauC es ls fun u => ∃ e ∈ es, P e.1 ∧ ls[e.2.1.toNat]? = some lab ∧ e.2.2 = u
theorem TauC.imp {es : List Ed} {ls : List ByteArray} {P Q : Int → Prop} (h : ∀ v, P v → Q v) {v : Int} (hv : TauC es ls P v) : TauC es ls Q v := by
  induction hv with
  | base h1 => exact .base (h _ h1)
  | step _ he hl ih => exact .step ih he hl
theorem TauC.congr {es : List Ed} {ls : List ByteArray} {P Q : Int → Prop} (h : ∀ v, P v ↔ Q v) (v : Int) : TauC es ls P v ↔ TauC es ls Q v := ⟨TauC.imp fun v => (h v).1, TauC.imp fun v => (h v).2⟩
theorem VisC.congr {es : List Ed} {ls : List ByteArray} {P Q : Int → Prop} (h : ∀ v, P v ↔ Q v) (lab : ByteArray) (v : Int) : VisC es ls P lab v ↔ VisC es ls Q lab v := by
  refine TauC.congr (fun u => ?_) v
  constructor
  · rintro ⟨e, he, h1, h2, h3⟩
    exact ⟨e, he, (h _).1 h1, h2, h3⟩
  · rintro ⟨e, he, h1, h2, h3⟩
    exact ⟨e, he, (h _).2 h1, h2, h3⟩

end Go.Proofs.YthlaoedpjloloaaGreatDoor

namespace Go.Proofs.YthlaoedpjloloaaGreatDoor
set_option linter.unusedVariables false
set_option linter.unusedSimpArgs false

/-- The first of the numbers below k that go with it, or k. -/
def repE (E : Nat → Nat → Bool) (k : Nat) : Nat := ((List.range k).find? (E k)).getD k
/-- Classes, by the first state of each. -/
def clsE (E : Nat → Nat → Bool) : Nat → List Int × Nat
  | 0 => ([], 0)
  | k + 1 => match (List.range k).find? (E k) with
    | some j => ((clsE E k).1 ++ [(clsE E k).1[j]?.getD 0], (clsE E k).2)
    | none => ((clsE E k).1 ++ [((clsE E k).2 : Int)], (clsE E k).2 + 1)
/-- The place of a number in a list, or the list's length. -/
def plcE (l : List Nat) (n : Nat) : Nat := (l.findIdx? fun x => decide (x = n)).getD l.length
/-- The normal form of a list of numbers: the blocks in the order in which they come, and their numbers. -/
def nrmE (l : List Nat) : Nat → List Int × List Nat
  | 0 => ([], [])
  | k + 1 => match l[k]? with
    | none => nrmE l k
    | some n => ((nrmE l k).1 ++ [(plcE (nrmE l k).2 n : Int)], if n ∈ (nrmE l k).2 then (nrmE l k).2 else (nrmE l k).2 ++ [n])
theorem clsE_len (E : Nat → Nat → Bool) (k : Nat) : (clsE E k).1.length = k := by
  induction k with
  | zero => rfl
  | succ k ih =>
    unfold clsE
    split <;> simp [ih]
theorem clsE_pre (E : Nat → Nat → Bool) {j k : Nat} (h : j ≤ k) : (clsE E j).1 <+: (clsE E k).1 := by
  induction k with
  | zero =>
    obtain rfl : j = 0 := by omega
    exact List.prefix_refl _
  | succ k ih =>
    rcases Nat.lt_or_ge k j with h1 | h1
    · obtain rfl : j = k + 1 := by omega
      exact List.prefix_refl _
    · refine (ih h1).trans ?_
      conv => rhs; unfold clsE
      split <;> exact List.prefix_append _ _
/-- Where the numbers go together as an equivalence does, the normal form of the first ones is that. -/
theorem nrm_cls {E : Nat → Nat → Bool} (hs : ∀ a b, E a b = true → E b a = true) (ht : ∀ a b c, E a b = true → E b c = true → E a c = true) (n : Nat) :
    ∀ k, k ≤ n → (nrmE ((List.range n).map (repE E)) k).1 = (clsE E k).1 ∧ (nrmE ((List.range n).map (repE E)) k).2.length = (clsE E k).2 ∧
      (∀ j, j ∈ (nrmE ((List.range n).map (repE E)) k).2 ↔ (j < k ∧ repE E j = j)) ∧
      (∀ j, j < k → repE E j = j → (clsE E k).1[j]? = some (plcE (nrmE ((List.range n).map (repE E)) k).2 j : Int)) := by
  intro k
  induction k with
  | zero => exact fun _ => ⟨rfl, rfl, fun j => ⟨(fun h => by cases h), fun h => by omega⟩, fun j h => by omega⟩
  | succ k ih =>
    intro hk
    obtain ⟨h1, h2, h3, h4⟩ := ih (by omega)
    have hl : ((List.range n).map (repE E))[k]? = some (repE E k) := by rw [List.getElem?_map, List.getElem?_range (by omega)]; rfl
    have hlen : (clsE E k).1.length = k := clsE_len E k
    have hpl : ∀ (l : List Nat) (m j : Nat), j ∈ l → plcE (l ++ [m]) j = plcE l j := fun l m j hj => by
      unfold plcE
      rw [List.findIdx?_append]
      cases hf : l.findIdx? fun x => decide (x = j) with
      | some i => simp
      | none =>
        rw [List.findIdx?_eq_none_iff] at hf
        have := hf j hj
        simp at this
    conv => enter [1, 1]; unfold nrmE
    conv => enter [2, 1, 1]; unfold nrmE
    conv => enter [2, 2, 1, j, 1]; unfold nrmE
    conv => enter [2, 2, 2, j]; unfold nrmE
    rw [hl]
    dsimp only
    cases hf : (List.range k).find? (E k) with
    | none =>
      have hr : repE E k = k := by unfold repE; rw [hf]; rfl
      have hc : clsE E (k + 1) = ((clsE E k).1 ++ [((clsE E k).2 : Int)], (clsE E k).2 + 1) := by conv => lhs; unfold clsE; rw [hf]
      have hno : ¬ k ∈ (nrmE ((List.range n).map (repE E)) k).2 := fun h => by have := (h3 k).1 h; omega
      have hpk : ∀ l : List Nat, ¬ k ∈ l → plcE l k = l.length := fun l hl => by
        unfold plcE
        rw [List.findIdx?_eq_none_iff.2 (fun x hx => decide_eq_false fun e : x = k => hl (by rw [← e]; exact hx))]
        rfl
      have hpk2 : ∀ l : List Nat, ¬ k ∈ l → plcE (l ++ [k]) k = l.length := fun l hl => by
        unfold plcE
        rw [List.findIdx?_append, List.findIdx?_eq_none_iff.2 (fun x hx => decide_eq_false fun e : x = k => hl (by rw [← e]; exact hx))]
        simp
      rw [hr, if_neg hno, hc, hpk _ hno]
      refine ⟨by rw [h1, h2], by rw [List.length_append, h2]; rfl, fun j => ?_, fun j hj hjr => ?_⟩
      · rw [List.mem_append, h3, List.mem_singleton]
        constructor
        · rintro (⟨a, b⟩ | rfl)
          · exact ⟨by omega, b⟩
          · exact ⟨by omega, hr⟩
        · rintro ⟨a, b⟩
          rcases Nat.lt_or_ge j k with h5 | h5
          · exact .inl ⟨h5, b⟩
          · exact .inr (by omega)
      · rcases Nat.lt_or_ge j k with h5 | h5
        · rw [List.getElem?_append_left (by rw [hlen]; exact h5), h4 j h5 hjr, hpl _ _ _ ((h3 j).2 ⟨h5, hjr⟩)]
        · obtain rfl : j = k := by omega
          rw [List.getElem?_append_right (by rw [hlen]; exact Nat.le_refl _), hlen, Nat.sub_self, hpk2 _ hno, h2]
          rfl
    | some j =>
      have hr : repE E k = j := by unfold repE; rw [hf]; rfl
      have hj1 := List.find?_some hf
      have hj2 := List.mem_range.1 (List.mem_of_find?_eq_some hf)
      have hjr : repE E j = j := by
        unfold repE
        cases hg : (List.range j).find? (E j) with
        | none => rfl
        | some i =>
          have hi1 := List.find?_some hg
          have hi2 := List.mem_range.1 (List.mem_of_find?_eq_some hg)
          exfalso
          have hki := ht _ _ _ hj1 hi1
          obtain ⟨xs, ys, e1, e2⟩ := (List.find?_eq_some_iff_append.1 hf).2
          have : xs = List.range j := by
            have h5 : (List.range k)[xs.length]? = some j := by rw [e1]; simp
            have h6 : xs.length = j := by
              have h7 := (List.getElem?_eq_some_iff.1 h5)
              obtain ⟨h8, h9⟩ := h7
              simpa using h9
            have h7 : xs = (List.range k).take j := by rw [e1, ← h6, List.take_left]
            rw [h7, List.take_range, Nat.min_eq_left (by omega)]
          have := e2 i (by rw [this]; exact List.mem_range.2 hi2)
          rw [hki] at this
          cases this
      have hc : clsE E (k + 1) = ((clsE E k).1 ++ [(clsE E k).1[j]?.getD 0], (clsE E k).2) := by conv => lhs; unfold clsE; rw [hf]
      have hin : j ∈ (nrmE ((List.range n).map (repE E)) k).2 := (h3 j).2 ⟨hj2, hjr⟩
      rw [hr, if_pos hin, hc, h4 j hj2 hjr]
      refine ⟨by rw [h1]; rfl, h2, fun i => ?_, fun i hi hir => ?_⟩
      · rw [h3]
        constructor
        · exact fun ⟨a, b⟩ => ⟨by omega, b⟩
        · rintro ⟨a, b⟩
          refine ⟨?_, b⟩
          rcases Nat.lt_or_ge i k with h5 | h5
          · exact h5
          · obtain rfl : i = k := by omega
            omega
      · have h5 : i < k := by
          rcases Nat.lt_or_ge i k with h5 | h5
          · exact h5
          · obtain rfl : i = k := by omega
            omega
        rw [List.getElem?_append_left (by rw [hlen]; exact h5)]
        exact h4 i h5 hir

end Go.Proofs.YthlaoedpjloloaaGreatDoor

namespace Go.Proofs.YthlaoedpjloloaaGreatDoor
open Go.ChangeShapes Go.WideShapes Go.ChangeAt Go.RowKit Go.Sort
set_option linter.unusedVariables false
set_option linter.unusedSimpArgs false

def labE (ls : List ByteArray) (e : Ed) : ByteArray := (ls[e.2.1.toNat]?).getD ⟨#[]⟩
/-! ## Edges from a state, by the program -/
set_option maxRecDepth 100000 in
set_option maxHeartbeats 1600000 in
theorem out_calls (s0 s1 : Int) (v2 : Value) (A3 : Option Addr) (n3 k3 : Nat) (s : Int) (es : List Ed) (w : World) (lo hi : Nat) (t3 : SlE w lo hi A3 n3 es) (hes : n3 ≤ 1048576) (hv2 : ∃ A n k, v2 = .slice A n k) :
    Calls Tryz.prog 104 #[.agg #[.int .i64 s0, .int .i64 s1, v2, .slice A3 n3 k3], .int .i64 s] w fun e w' => ∃ A n c, e = .returned (.slice A n c) ∧ SlE w' w.heap.size w'.heap.size A n (outE es s) ∧ n ≤ 1048576 ∧ Below w.heap.size w w' := by
  obtain ⟨A2, n2, k2, rfl⟩ := hv2
  have l3 := hide t3.len
  have hE := hide elem_edge
  have hb0 : Below w.heap.size w (w.alloc (.cells #[.int .i64 s0, .int .i64 s1, .slice A2 n2 k2, .slice A3 n3 k3] 31)) := (Below.refl _ _).alloc (Nat.le_refl _) _
  have kE := heap_alloc_new w (.cells #[.int .i64 s0, .int .i64 s1, .slice A2 n2 k2, .slice A3 n3 k3] 31)
  have c3 : (w.alloc (.cells #[.int .i64 s0, .int .i64 s1, .slice A2 n2 k2, .slice A3 n3 k3] 31)).cell? ⟨w.heap.size, 3, none⟩ = some (.slice A3 n3 k3) := (cell_of_row _ _ 3 _ _ (0, 0) kE).trans rfl
  have hz' := hb0.size
  replace t3 := hide (t3.below hb0 (.inr (Nat.le_refl _)))
  replace hb0 := hide hb0
  clear kE
  go_enter Tryz.func104, Tryz.ntmps104
  go_upto_region 3 with fail
  clear c3
  generalize (w.alloc (.cells #[.int .i64 s0, .int .i64 s1, .slice A2 n2 k2, .slice A3 n3 k3] 31)) = W0 at *
  go_loopw [5, 11] (fun o i wr => ∃ k m c A, k ≤ n3 ∧ m ≤ k ∧ o = .slice A m c ∧ i = .int .i64 (k : Nat) ∧ Hid (Own 3 ev wr W0.heap.size 99 A m c (outE (es.take k) s)) ∧ Below W0.heap.size W0 wr) (fun _ i _ => n3 - (intOf i).toNat)
  case atStart => exact ⟨0, 0, 0, none, Nat.zero_le _, Nat.le_refl _, rfl, rfl, Own.nil_ _ _ _, Below.refl _ _⟩
  case round =>
    obtain ⟨k, m, c, A, hk, hmk, rfl, rfl, hown, hb⟩ := hrel
    have hz := hb.size
    by_cases hlt : k < n3
    · obtain ⟨b, off, f, lb, tg, rfl, g1, g2, g3, hx, a0, a1, a2, -, -, -⟩ := SlE.get t3.out hlt
      replace a0 := (hb.cell g3).trans a0
      replace a1 := (hb.cell (p := ⟨b, off + k * 3 + 1, none⟩) g3).trans a1
      replace a2 := (hb.cell (p := ⟨b, off + k * 3 + 2, none⟩) g3).trans a2
      have hsu := outE_succ (s := s) hx
      have hbE : Below wr.heap.size wr (wr.alloc (.cells #[.int .i64 f, .int .i64 lb, .int .i64 tg] 99)) := (Below.refl _ _).alloc (Nat.le_refl _) _
      have kE := heap_alloc_new wr (.cells #[.int .i64 f, .int .i64 lb, .int .i64 tg] 99)
      have z0 : (wr.alloc (.cells #[.int .i64 f, .int .i64 lb, .int .i64 tg] 99)).cell? ⟨wr.heap.size, 0, none⟩ = some (.int .i64 f) := (cell_of_row _ _ 0 _ _ (0, 0) kE).trans rfl
      have z1 : (wr.alloc (.cells #[.int .i64 f, .int .i64 lb, .int .i64 tg] 99)).cell? ⟨wr.heap.size, 1, none⟩ = some (.int .i64 lb) := (cell_of_row _ _ 1 _ _ (0, 0) kE).trans rfl
      have z2 : (wr.alloc (.cells #[.int .i64 f, .int .i64 lb, .int .i64 tg] 99)).cell? ⟨wr.heap.size, 2, none⟩ = some (.int .i64 tg) := (cell_of_row _ _ 2 _ _ (0, 0) kE).trans rfl
      have hbB := hb.trans (hbE.mono hz)
      have hzB := hbB.size
      replace hown := hide (hown.out.alloc (.cells #[.int .i64 f, .int .i64 lb, .int .i64 tg] 99))
      replace hbB := hide hbB
      clear hx g1 g2 kE hbE hb
      go_upto_region 5 with fail
      clear a0 a1 a2
      generalize (wr.alloc (.cells #[.int .i64 f, .int .i64 lb, .int .i64 tg] 99)) = WE at *
      generalize wr.heap.size = bE at *
      have hza : ∀ o, W0.heap.size ≤ (WE.alloc o).heap.size := fun o => by rw [World.size_alloc]; omega
      by_cases hf : f = s
      · subst hf
        rw [if_pos rfl] at hsu
        replace hsu := hide hsu
        go_wp2_with (first | (at_builtin; (with_reducible refine wpList_app rfl (.tmp 19) (.tmp 21) rfl hE.out flat_ev rfl (hown.out.alloc _) rfl (Sl.lit1' WE 99 (f, lb, tg) _ rfl 3 _ ?c0) ?c1 (hza _) ?_); rotate_right; intro A5 c5 w5 hown5 hgr5 hb5 _))
        case c0 => rfl
        case c1 => omega
        have hb6 := hide ((hbB.out.alloc hzB (.cells #[.int .i64 f, .int .i64 lb, .int .i64 tg] 99)).trans hb5)
        replace hown5 : Hid (Own 3 ev w5 W0.heap.size 99 A5 (m + 1) c5 (outE (es.take (k + 1)) f)) := by show Own _ _ _ _ _ _ _ _ _; rw [hsu.out]; exact hown5
        go_roundw
        case rel => exact ⟨k + 1, m + 1, c5, A5, by omega, by omega, rfl, by go_num, hown5, hb6.out⟩
        case measure => simp [intOf]; omega
      · rw [if_neg hf, List.append_nil] at hsu
        have hfb : (f == s) = false := by rw [beq_eq_false_iff_ne]; exact hf
        replace hown : Hid (Own 3 ev WE W0.heap.size 99 A m c (outE (es.take (k + 1)) s)) := by show Own _ _ _ _ _ _ _ _ _; rw [hsu]; exact hown.out
        clear hsu hf
        go_wp2_with fail
        go_roundw
        case rel => exact ⟨k + 1, m, c, A, by omega, by omega, rfl, by go_num, hown, hbB.out⟩
        case measure => simp [intOf]; omega
    · have hkn : k = n3 := by omega
      have hall : es.take k = es := List.take_of_length_le (by rw [l3.out, hkn]; exact Nat.le_refl _)
      have hsl := hide (hown.out.sl flat_ev)
      replace hall := hide hall
      replace hb := hide hb
      subst hkn
      go_wp2_with fail
      go_ret
      have h1 := hsl.out.more hz' (Nat.le_refl _)
      rw [hall.out] at h1
      exact ⟨A, m, c, rfl, h1, by omega, hb0.out.trans (hb.out.mono hz')⟩

end Go.Proofs.YthlaoedpjloloaaGreatDoor

namespace Go.Proofs.YthlaoedpjloloaaGreatDoor
set_option linter.unusedVariables false
set_option linter.unusedSimpArgs false

/-- w answers a label from y. -/
def stepW (K : Int) (eb : List Ed) (lb : List ByteArray) (y : Int) (lab : ByteArray) (w : Int) : Prop :=
  if K = 2 then (if lab = tauB then TauC eb lb (· = y) w else VisC eb lb (TauC eb lb (· = y)) lab w) else ∃ e ∈ eb, e.1 = y ∧ lb[e.2.1.toNat]? = some lab ∧ e.2.2 = w
/-- All edges from x are answered from y within S. -/
def simB (K : Int) (ea : List Ed) (la : List ByteArray) (eb : List Ed) (lb : List ByteArray) (S : Rel2) (x y : Int) : Prop := ∀ e ∈ outE ea x, ∃ w, stepW K eb lb y (labE la e) w ∧ S e.2.2 w
/-- The labels of the edges from a state. -/
def rdyL (es : List Ed) (ls : List ByteArray) (x : Int) : List ByteArray := ((List.range ls.length).filter fun k : Nat => es.any fun e => decide (e.1 = x) && decide (e.2.1 = (k : Int))).map fun k : Nat => ls[k]?.getD ByteArray.empty
/-- The pairs of a round. -/
def simR (K : Int) (na nb : Int) (ea : List Ed) (la : List ByteArray) (eb : List Ed) (lb : List ByteArray) : Nat → Rel2
  | 0 => fun x y => ((0 ≤ x ∧ x < na) ∧ 0 ≤ y ∧ y < nb) ∧ (K = 1 → rdyL ea la x = rdyL eb lb y)
  | r + 1 => fun x y => simR K na nb ea la eb lb r x y ∧ simB K ea la eb lb (simR K na nb ea la eb lb r) x y
section
variable {K na nb : Int} {ea : List Ed} {la : List ByteArray} {eb : List Ed} {lb : List ByteArray}
theorem simB_congr {S T : Rel2} (h : ∀ x y, S x y ↔ T x y) (x y : Int) : simB K ea la eb lb S x y ↔ simB K ea la eb lb T x y := by
  constructor
  · intro h1 e he
    obtain ⟨w, h2, h3⟩ := h1 e he
    exact ⟨w, h2, (h _ _).1 h3⟩
  · intro h1 e he
    obtain ⟨w, h2, h3⟩ := h1 e he
    exact ⟨w, h2, (h _ _).2 h3⟩
theorem simR_in {r : Nat} {x y : Int} (h : simR K na nb ea la eb lb r x y) : (0 ≤ x ∧ x < na) ∧ 0 ≤ y ∧ y < nb := by
  induction r with
  | zero => exact h.1
  | succ r ih => exact ih h.1
theorem simR_down {r k : Nat} {x y : Int} (h : simR K na nb ea la eb lb (r + k) x y) : simR K na nb ea la eb lb r x y := by
  induction k with
  | zero => exact h
  | succ k ih => exact ih h.1
/-- Nothing changes any more. -/
theorem simR_stay {r : Nat} (h : ∀ x y, simR K na nb ea la eb lb r x y → simR K na nb ea la eb lb (r + 1) x y) : ∀ k x y, simR K na nb ea la eb lb r x y → simR K na nb ea la eb lb (r + k) x y := by
  have key : ∀ k, ∀ x y, simR K na nb ea la eb lb r x y ↔ simR K na nb ea la eb lb (r + k) x y := by
    intro k
    induction k with
    | zero => exact fun _ _ => Iff.rfl
    | succ k ih =>
      intro x y
      constructor
      · intro h1
        exact ⟨(ih x y).1 h1, (simB_congr ih x y).1 (h x y h1).2⟩
      · exact fun h1 => (ih x y).2 h1.1
  exact fun k x y h1 => (key k x y).1 h1
end
theorem step_in {K r0 r1 : Int} {lp : List ByteArray} {ep : List Ed} (h : ltsV (r0, r1, lp, ep) = true) {y u : Int} (hy : 0 ≤ y ∧ y < r0) {lab : ByteArray} (hs : stepW K ep lp y lab u) : 0 ≤ u ∧ u < r0 := by
  have hE : ∀ e ∈ ep, 0 ≤ e.2.2 ∧ e.2.2 < r0 := fun e he => by
    obtain ⟨k, hk⟩ := List.getElem?_of_mem he
    obtain ⟨f, lb, tg⟩ := e
    have := (edge_of h hk).2.1
    dsimp only
    omega
  have hT : ∀ {P : Int → Prop}, (∀ v, P v → 0 ≤ v ∧ v < r0) → ∀ {v}, TauC ep lp P v → 0 ≤ v ∧ v < r0 := fun hP v hv => by
    cases hv with
    | base h1 => exact hP _ h1
    | step _ he _ => exact hE _ he
  unfold stepW at hs
  split at hs
  · split at hs
    · exact hT (fun v hv => by subst hv; exact hy) hs
    · exact hT (fun v hv => by obtain ⟨e, he, -, -, rfl⟩ := hv; exact hE e he) hs
  · obtain ⟨e, he, -, -, rfl⟩ := hs
    exact hE e he

/-- The first round in which a pair is missing, or -1. -/
def MisV (S : Nat → Rel2) (i j : Int) (m : Int) : Prop := (m = -1 ∧ ∀ r, S r i j) ∨ ∃ r : Nat, m = (r : Int) ∧ ¬ S r i j ∧ ∀ k, k < r → S k i j
theorem MisV.uniq {S : Nat → Rel2} {i j m m' : Int} (h : MisV S i j m) (g : MisV S i j m') : m = m' := by
  rcases h with ⟨rfl, h⟩ | ⟨r, rfl, h1, h2⟩
  · rcases g with ⟨rfl, -⟩ | ⟨r, rfl, g1, -⟩
    · rfl
    · exact absurd (h r) g1
  · rcases g with ⟨rfl, g⟩ | ⟨r', rfl, g1, g2⟩
    · exact absurd (g r) h1
    · rcases Nat.lt_trichotomy r r' with h3 | h3 | h3
      · exact absurd (g2 r h3) h1
      · rw [h3]
      · exact absurd (h2 r' h3) g1
open Classical in
noncomputable def misF (S : Nat → Rel2) (i j : Int) : Int := if h : ∃ m, MisV S i j m then h.choose else -1
theorem misF_eq {S : Nat → Rel2} {i j m : Int} (h : MisV S i j m) : misF S i j = m := by
  unfold misF
  rw [dif_pos ⟨m, h⟩]
  exact (Exists.choose_spec (⟨m, h⟩ : ∃ m, MisV S i j m)).uniq h
/-- A search that has come to a round from which nothing changes. -/
theorem MisV.stop {S : Nat → Rel2} {i j : Int} {n : Nat} (h1 : ∀ k, k ≤ n → S k i j) (h2 : ∀ k, S n i j → S (n + k) i j) : MisV S i j (-1) :=
  .inl ⟨rfl, fun r => by
    rcases Nat.lt_or_ge n r with h3 | h3
    · obtain ⟨k, rfl⟩ : ∃ k, r = n + k := ⟨r - n, by omega⟩
      exact h2 k (h1 n (Nat.le_refl _))
    · exact h1 r h3⟩

end Go.Proofs.YthlaoedpjloloaaGreatDoor

namespace Go.Proofs.YthlaoedpjloloaaGreatDoor
set_option linter.unusedVariables false
set_option linter.unusedSimpArgs false

/-- The greatest simulation: the pairs of all rounds. -/
def gsR (K : Int) (na nb : Int) (ea : List Ed) (la : List ByteArray) (eb : List Ed) (lb : List ByteArray) : Rel2 := fun x y => ∀ r, simR K na nb ea la eb lb r x y
section
variable {K na nb : Int} {ea : List Ed} {la : List ByteArray} {eb : List Ed} {lb : List ByteArray}
theorem simR_le {r s : Nat} (h : r ≤ s) {x y : Int} (g : simR K na nb ea la eb lb s x y) : simR K na nb ea la eb lb r x y := by
  obtain ⟨k, rfl⟩ : ∃ k, s = r + k := ⟨s - r, by omega⟩
  exact simR_down g
theorem gsR_of_stay {r : Nat} (h : ∀ x y, simR K na nb ea la eb lb r x y → simR K na nb ea la eb lb (r + 1) x y) (x y : Int) : simR K na nb ea la eb lb r x y ↔ gsR K na nb ea la eb lb x y := by
  constructor
  · intro h1 s
    rcases Nat.lt_or_ge s r with h2 | h2
    · exact simR_le (Nat.le_of_lt h2) h1
    · obtain ⟨k, rfl⟩ : ∃ k, s = r + k := ⟨s - r, by omega⟩
      exact simR_stay h k x y h1
  · exact fun h1 => h1 r
theorem gsR_in {x y : Int} (h : gsR K na nb ea la eb lb x y) : (0 ≤ x ∧ x < na) ∧ 0 ≤ y ∧ y < nb := simR_in (h 0)
theorem gsR_step {r : Nat} (h : ∀ x y, simR K na nb ea la eb lb r x y → simR K na nb ea la eb lb (r + 1) x y) {x y : Int} (g : gsR K na nb ea la eb lb x y) : simB K ea la eb lb (gsR K na nb ea la eb lb) x y :=
  (simB_congr (fun x y => gsR_of_stay h x y) x y).1 (g (r + 1)).2
end
/-- The greatest simulation of a system by itself leads on. -/
theorem gsR_trans {n : Int} {es : List Ed} {ls : List ByteArray} {r : Nat} (h : ∀ x y, simR 0 n n es ls es ls r x y → simR 0 n n es ls es ls (r + 1) x y)
    {x y z : Int} (h1 : gsR 0 n n es ls es ls x y) (h2 : gsR 0 n n es ls es ls y z) : gsR 0 n n es ls es ls x z := by
  have key : ∀ (s : Nat) (x y z : Int), gsR 0 n n es ls es ls x y → gsR 0 n n es ls es ls y z → simR 0 n n es ls es ls s x z := by
    intro s
    induction s with
    | zero => exact fun x y z g1 g2 => ⟨⟨(gsR_in g1).1, (gsR_in g2).2⟩, fun e => by cases e⟩
    | succ s ih =>
      intro x y z g1 g2
      refine ⟨ih x y z g1 g2, fun e he => ?_⟩
      obtain ⟨w, ⟨e2, k1, k2, k3, k4⟩, k5⟩ := (gsR_step h g1 e he : ∃ w, (∃ e2 ∈ es, e2.1 = y ∧ ls[e2.2.1.toNat]? = some (labE ls e) ∧ e2.2.2 = w) ∧ _)
      have hout : e2 ∈ outE es y := List.mem_filter.2 ⟨k1, decide_eq_true k2⟩
      have hlab : labE ls e2 = labE ls e := by
        unfold labE at k3 ⊢
        rw [k3]
        rfl
      obtain ⟨u, k6, k7⟩ := gsR_step h g2 e2 hout
      rw [hlab] at k6
      rw [k4] at k7
      exact ⟨u, k6, ih _ _ _ k5 k7⟩
  exact fun s => key s x y z h1 h2

open Classical in
/-- The table of a relation. -/
noncomputable def tabR (n p : Nat) (S : Rel2) : List (List Bool) := (List.range n).map fun x : Nat => (List.range p).map fun y : Nat => decide (S (x : Int) (y : Int))
open Classical in
noncomputable def rowR2 (p : Nat) (S : Rel2) (x : Nat) : List Bool := (List.range p).map fun y : Nat => decide (S (x : Int) (y : Int))
theorem tabR_len (n p : Nat) (S : Rel2) : (tabR n p S).length = n := by simp [tabR]
theorem rowR2_len (p : Nat) (S : Rel2) (x : Nat) : (rowR2 p S x).length = p := by simp [rowR2]
theorem tabR_get {n p : Nat} {S : Rel2} {x : Nat} (h : x < n) : (tabR n p S)[x]? = some (rowR2 p S x) := by simp [tabR, rowR2, h]
open Classical in
theorem rowR2_get {p : Nat} {S : Rel2} {x y : Nat} (h : y < p) : (rowR2 p S x)[y]? = some (decide (S (x : Int) (y : Int))) := by simp [rowR2, h]
theorem tabR_succ (n p : Nat) (S : Rel2) : tabR (n + 1) p S = tabR n p S ++ [rowR2 p S n] := by simp [tabR, rowR2, List.range_succ]
open Classical in
theorem rowR2_succ (p : Nat) (S : Rel2) (x : Nat) : rowR2 (p + 1) S x = rowR2 p S x ++ [decide (S (x : Int) (p : Int))] := by simp [rowR2, List.range_succ]
open Classical in
theorem tabR_congr {n p : Nat} {S T : Rel2} (h : ∀ x y : Nat, x < n → y < p → (S (x : Int) (y : Int) ↔ T (x : Int) (y : Int))) : tabR n p S = tabR n p T := by
  unfold tabR
  refine List.map_congr_left fun x hx => List.map_congr_left fun y hy => ?_
  have := h x y (List.mem_range.1 hx) (List.mem_range.1 hy)
  by_cases h1 : S (x : Int) (y : Int)
  · rw [decide_eq_true h1, decide_eq_true (this.1 h1)]
  · rw [decide_eq_false h1, decide_eq_false (fun h2 => h1 (this.2 h2))]

open Classical in
/-- Whether an edge is a little brother. -/
noncomputable def litB (S : Rel2) (es : List Ed) (e : Ed) : Bool := es.any fun f => decide (f.1 = e.1) && decide (f.2.1 = e.2.1) && decide (S e.2.2 f.2.2) && !decide (S f.2.2 e.2.2)
noncomputable def litF (d : DL) : List Ed × Int := if ltsV d = true then ((d.2.2.2.filter fun e => litB (gsR 0 d.1 d.1 d.2.2.2 d.2.2.1 d.2.2.2 d.2.2.1) d.2.2.2 e), 0) else ([], 1)

open Classical in
noncomputable def mutE (S : Rel2) (a b : Nat) : Bool := decide (S (a : Int) (b : Int)) && decide (S (b : Int) (a : Int))
noncomputable def clsF (d : DL) : List Int × Int := if ltsV d = true then ((clsE (mutE (gsR 0 d.1 d.1 d.2.2.2 d.2.2.1 d.2.2.2 d.2.2.1)) d.1.toNat).1, 0) else ([], 1)

end Go.Proofs.YthlaoedpjloloaaGreatDoor

namespace Go.Proofs.YthlaoedpjloloaaGreatDoor
open Go.ChangeShapes Go.WideShapes Go.ChangeAt Go.RowKit Go.Sort
set_option linter.unusedVariables false
set_option linter.unusedSimpArgs false

theorem lab_zero {st ini : Int} {ls : List ByteArray} {es : List Ed} (h : ltsV (st, ini, ls, es) = true) : ls[0]? = some tauB := by
  have hn := names_of h
  unfold namesB at hn
  rw [Bool.and_eq_true] at hn
  have hl := inB_true.1 hn.1
  have hx : ls[0]? = some (ls[0]'(by omega)) := List.getElem?_eq_getElem _
  have h0 := allK_get hn.2 (show 0 < ls.length by omega)
  rw [okL_zero hx] at h0
  rw [hx, of_decide_eq_true h0]
theorem lab_at {st ini : Int} {ls : List ByteArray} {es : List Ed} (h : ltsV (st, ini, ls, es) = true) {e : Ed} (he : e ∈ es) {k : Nat} {x : ByteArray} (hk : ls[k]? = some x) : ls[e.2.1.toNat]? = some x ↔ e.2.1 = (k : Int) := by
  obtain ⟨j, hj⟩ := List.getElem?_of_mem he
  obtain ⟨f, lb, tg⟩ := e
  have hb := (edge_of h hj).2.2
  dsimp only
  constructor
  · intro h1
    have := labs_uniq (names_of h) h1 hk
    omega
  · intro h1
    rw [h1, Int.toNat_natCast]
    exact hk

/-- The set while it is closed: what is in it is reached; the edges ahead of j lead within it. -/
structure CloI (es : List Ed) (ls : List ByteArray) (l0 l : List Bool) (n j : Nat) (more : Bool) : Prop where
  len : l.length = n
  sound : ∀ v : Nat, inS l v = true → TauC es ls (fun u => 0 ≤ u ∧ inS l0 u.toNat = true) (v : Int)
  base : ∀ v : Nat, inS l0 v = true → inS l v = true
  clos : more = false → ∀ i, i < j → ∀ e, es[i]? = some e → e.2.1 = 0 → inS l e.1.toNat = true → inS l e.2.2.toNat = true
theorem CloI.start {es : List Ed} {ls : List ByteArray} {l0 : List Bool} {n : Nat} (h : l0.length = n) (more : Bool) : CloI es ls l0 l0 n 0 more :=
  ⟨h, fun v hv => .base ⟨by omega, by rw [Int.toNat_natCast]; exact hv⟩, fun v hv => hv, fun _ i hi => by omega⟩
theorem CloI.again {es : List Ed} {ls : List ByteArray} {l0 l : List Bool} {n j : Nat} {m : Bool} (h : CloI es ls l0 l n j m) : CloI es ls l0 l n 0 false := ⟨h.len, h.sound, h.base, fun _ i hi => by omega⟩
theorem CloI.skip {es : List Ed} {ls : List ByteArray} {l0 l : List Bool} {n j : Nat} {m : Bool} (h : CloI es ls l0 l n j m) {e : Ed} (hx : es[j]? = some e) (hn : e.2.1 = 0 → inS l e.1.toNat = true → inS l e.2.2.toNat = true) : CloI es ls l0 l n (j + 1) m :=
  ⟨h.len, h.sound, h.base, fun hm i hi e' he' => by
    by_cases hij : i = j
    · subst hij
      rw [hx] at he'
      cases he'
      exact hn
    · exact h.clos hm i (by omega) e' he'⟩
theorem CloI.hit {st ini : Int} {es : List Ed} {ls : List ByteArray} (hval : ltsV (st, ini, ls, es) = true) {l0 l : List Bool} {n j : Nat} {m : Bool} (h : CloI es ls l0 l n j m) {e : Ed} (hx : es[j]? = some e) (h0 : e.2.1 = 0) (hf : inS l e.1.toNat = true) (ht : e.2.2.toNat < n) : CloI es ls l0 (l.set e.2.2.toNat true) n (j + 1) true := by
  have hl : e.2.2.toNat < l.length := by rw [h.len]; exact ht
  obtain ⟨f, lb, tg⟩ := e
  have hb := edge_of hval hx
  dsimp only at h0 hf ht hl ⊢
  refine ⟨by rw [List.length_set]; exact h.len, fun v hv => ?_, fun v hv => ?_, fun e => by cases e⟩
  · rw [inS_set hl] at hv
    split at hv
    · rename_i e1
      subst e1
      have h1 := h.sound _ hf
      rw [Int.toNat_of_nonneg hb.1.1] at h1
      rw [Int.toNat_of_nonneg hb.2.1.1]
      exact .step (e := (f, lb, tg)) h1 (List.mem_of_getElem? hx) ((lab_at hval (List.mem_of_getElem? hx) (lab_zero hval)).2 h0)
    · exact h.sound v hv
  · rw [inS_set hl]
    split
    · rfl
    · exact h.base v hv
theorem CloI.done {st ini : Int} {es : List Ed} {ls : List ByteArray} (hval : ltsV (st, ini, ls, es) = true) {l0 l : List Bool} {n j : Nat} (h : CloI es ls l0 l n j false) (hj : es.length ≤ j) (v : Int) (hv : 0 ≤ v) : inS l v.toNat = true ↔ TauC es ls (fun u => 0 ≤ u ∧ inS l0 u.toNat = true) v := by
  constructor
  · intro h1
    have := h.sound _ h1
    rwa [Int.toNat_of_nonneg hv] at this
  · intro h1
    clear hv
    induction h1 with
    | base h2 => exact h.base _ h2.2
    | @step e _ he hl ih =>
      obtain ⟨i, hi⟩ := List.getElem?_of_mem he
      exact h.clos rfl i (by have := (List.getElem?_eq_some_iff.1 hi).1; omega) e hi ((lab_at hval he (lab_zero hval)).1 hl) ih
/-- Where a set lies. -/
def BoB (w : World) (B n : Nat) (l : List Bool) : Prop := SlB w B (B + 1) (some ⟨B, 0, none⟩) n l
theorem BoB.below {w w' : World} {B n : Nat} {l : List Bool} (h : BoB w B n l) (hs : Below w.heap.size w w') : BoB w' B n l := Sl.below h hs (.inr (Nat.le_refl _))
theorem BoB.get {w : World} {B n : Nat} {l : List Bool} (h : BoB w B n l) {k : Nat} (hk : k < n) : w.cell? ⟨B, k, none⟩ = some (.bool (inS l k)) ∧ w.frozen? ⟨B, k, none⟩ = false ∧ B < w.heap.size ∧ ∀ c, BoB (w.setCell ⟨B, k, none⟩ (.bool c)) B n (l.set k c) := by
  obtain ⟨b, o, e, -, -, g, -, c0, c1⟩ := SlB.get h hk
  injection e with e
  injection e with e1 e2
  subst e1 e2
  rw [Nat.zero_add] at c0 c1
  exact ⟨c0, c1, g, fun c => by have := SlB.put h hk c; rwa [Nat.zero_add] at this⟩
theorem BoB.made (w : World) (n : Nat) : BoB (w.alloc (.cells (madeCells #[.bool false] n) 4)) w.heap.size n (setOf n fun _ => false) := SlB.made w n
theorem BoB.sav {w w' : World} {B n x : Nat} {l : List Bool} (h : BoB w B n l) (hs : Sav x w w') (hx : B ≠ x) : BoB w' B n l := Sl.keep h hs.size fun b h1 h2 h3 => hs.block b h3 (by omega)

end Go.Proofs.YthlaoedpjloloaaGreatDoor

namespace Go.Proofs.YthlaoedpjloloaaGreatDoor
open Go.ChangeShapes Go.WideShapes Go.ChangeAt Go.RowKit Go.Sort
set_option linter.unusedVariables false
set_option linter.unusedSimpArgs false

def anyL (ls : List ByteArray) (lab : ByteArray) : Bool := ls.any (fun x => decide (x = lab))
theorem str_list_ne3 {a b : ByteArray} (h : ¬ a = b) : (b.toList == a.toList) = false ∧ ¬ b.toList = a.toList := by
  have h1 := str_neq (a := b) (b := a) (fun e => h e.symm)
  exact ⟨h1, fun e => by rw [e, beq_self_eq_true] at h1; cases h1⟩
/-- Where a text stands in a list: -1 if it does not. -/
def FindI (l : List ByteArray) (s : ByteArray) (i : Int) : Prop := (i = -1 ∧ anyL l s = false) ∨ ∃ k : Nat, i = (k : Int) ∧ l[k]? = some s ∧ anyL l s = true
set_option maxRecDepth 100000 in
theorem l11Find_calls (s : ByteArray) (A : Option Addr) (n c : Nat) (l : List ByteArray) (w : World) (lo hi : Nat) (h : SlS w lo hi A n l) (hn : n ≤ 1048576) :
    Calls Tryz.prog 111 #[.slice A n c, .string s] w fun e w' => ∃ i : Int, e = .returned (.int .i64 i) ∧ FindI l s i ∧ w = w' := by
  have hlen := hide h.len
  go_enter Tryz.func111, Tryz.ntmps111
  go_wp2
  go_loop [5] (fun i => ∃ k : Nat, k ≤ n ∧ i = .int .i64 k ∧ Hid ((l.take k).any (fun x => decide (x = s)) = false)) (fun i => n - (intOf i).toNat)
  case atStart => exact ⟨0, Nat.zero_le _, rfl, rfl⟩
  case round =>
    obtain ⟨k, hk, rfl, ha⟩ := hrel
    by_cases hlt : k < n
    · obtain ⟨b, off, x, rfl, g1, g2, g3, hx, c0, -⟩ := SlS.get h hlt
      clear h
      by_cases hq : x = s
      · subst hq
        have hy : Hid (FindI l x (k : Int)) := .inr ⟨k, rfl, hx, any_hit (G := fun y => decide (y = x)) hx (decide_eq_true rfl)⟩
        have hself : (x.toList == x.toList) = true := beq_self_eq_true _
        clear hx
        go_wp2
        go_ret
        exact ⟨_, rfl, hy.out, rfl⟩
      · have hy := hide (any_take_succ ha.out hx (decide_eq_false hq))
        obtain ⟨hne, hne2⟩ := str_list_ne3 hq
        have hne3 : (x.toList == s.toList) = false := by
          have := str_neq (a := x) (b := s) hq
          exact this
        have hne4 : ¬ x.toList = s.toList := fun e => hne2 e.symm
        clear hx hq
        go_wp2
        go_round
        case rel => exact ⟨k + 1, by omega, by go_num, hy⟩
        case measure => simp [intOf]; omega
    · have hkn : k = n := by omega
      subst hkn
      clear h
      have hy := ha.out
      rw [List.take_of_length_le (by rw [hlen.out]; exact Nat.le_refl _)] at hy
      have hf : Hid (FindI l s (-1)) := .inl ⟨rfl, hy⟩
      clear ha hy
      go_wp2
      go_ret
      exact ⟨_, rfl, hf.out, rfl⟩


/-- The ends of the edges from a state with a label's number. -/
def nxtE (es : List Ed) (s i : Int) : List Int := (es.filter fun e => decide (e.1 = s) && decide (e.2.1 = i)).map fun e => e.2.2
theorem nxtE_succ {es : List Ed} {k : Nat} {e : Ed} {s i : Int} (hx : es[k]? = some e) : nxtE (es.take (k + 1)) s i = nxtE (es.take k) s i ++ (if (decide (e.1 = s) && decide (e.2.1 = i)) = true then [e.2.2] else []) := by
  unfold nxtE
  rw [List.take_add_one, hx, List.filter_append, List.map_append]
  congr 1
  cases h : (decide (e.1 = s) && decide (e.2.1 = i)) <;> simp [h]

set_option maxRecDepth 100000 in
set_option maxHeartbeats 1600000 in
theorem l11NextG_calls (bt : Nat) (x : CL) (d : DL) (s i : Int) (w : World) (h : LtsAt w bt x d) :
    Calls Tryz.prog 102 #[.pointer (some ⟨bt, 0, none⟩), .int .i64 s, .int .i64 i] w fun e w' => ∃ A n c, e = .returned (.slice A n c) ∧ SlI w' w.heap.size w'.heap.size A n (nxtE d.2.2.2 s i) ∧ n ≤ 1048576 ∧ Below w.heap.size w w' := by
  obtain ⟨s0, s1, v2, v3⟩ := x
  obtain ⟨st, ini, ls, es⟩ := d
  obtain ⟨⟨e0, e1, -, ⟨A3, n3, k3, e3, hn3, t3⟩⟩, htot, hbt, -, -, -, c3⟩ := h
  dsimp only at *
  subst e0 e1 e3
  have l3 := hide t3.len
  have hes : n3 ≤ 1048576 := by rw [← l3.out]; exact Nat.le_trans (totL_edg (s0, s1, ls, es)) htot
  replace t3 := hide t3
  have hE := hide elem_int
  clear htot hn3
  go_enter Tryz.func102, Tryz.ntmps102
  go_wp2
  go_loopw [7, 8] (fun v j wr => ∃ (k m c : Nat) (A : Option Addr), k ≤ n3 ∧ v = .slice A m c ∧ j = .int .i64 (k : Nat) ∧ m ≤ k ∧ Hid (Own 1 iv wr w.heap.size 2 A m c (nxtE (es.take k) s i)) ∧ Below w.heap.size w wr) (fun _ j _ => n3 - (intOf j).toNat)
  case atStart => exact ⟨0, 0, 0, _, Nat.zero_le _, rfl, rfl, Nat.zero_le _, Own.made w _ (Nat.le_refl _), (Below.refl _ _).alloc (Nat.le_refl _) _⟩
  case round =>
    obtain ⟨k, m, c, A, hk, rfl, rfl, hm, hown, hb⟩ := hrel
    have y3 := (hb.cell (p := ⟨bt, 3, none⟩) hbt).trans c3
    have hz := hb.size
    by_cases hlt : k < n3
    · obtain ⟨b, off, f, lb, tg, rfl, -, -, g3, hx, p0, p1, p2, -, -, -⟩ := SlE.get t3.out hlt
      replace p0 := (hb.cell g3).trans p0
      replace p1 := (hb.cell (p := ⟨b, off + k * 3 + 1, none⟩) g3).trans p1
      replace p2 := (hb.cell (p := ⟨b, off + k * 3 + 2, none⟩) g3).trans p2
      have hsu := nxtE_succ (s := s) (i := i) hx
      dsimp only at hsu
      have hI0 : (0 : Int) ≤ (k : Int) := by omega
      have hI1 : (k : Int) < (n3 : Int) := by omega
      have hza : ∀ o, w.heap.size ≤ (wr.alloc o).heap.size := fun o => by rw [World.size_alloc]; omega
      replace hb := hide hb
      by_cases hf : f = s
      · by_cases hl : lb = i
        · rw [decide_eq_true hf, decide_eq_true hl, if_pos (show (true && true) = true from rfl)] at hsu
          subst hf hl
          replace hsu := hide hsu
          clear hx
          go_wp2_with (first | (at_builtin; (with_reducible refine wpList_app rfl (.tmp 41) (.tmp 50) rfl hE.out flat_iv rfl (hown.out.alloc _) rfl (Sl.lit1' wr 2 tg _ rfl 1 _ ?c0) ?c1 (hza _) ?_); rotate_right; intro A5 c5 w5 hown5 hgr5 hb5 _))
          case c0 => rfl
          try (case c1 => omega)
          have hb6 := hide ((hb.out.alloc hz (.cells #[.int .i64 tg] 2)).trans hb5)
          replace hown5 : Hid (Own 1 iv w5 w.heap.size 2 A5 (m + 1) c5 (nxtE (es.take (k + 1)) f lb)) := by show Own _ _ _ _ _ _ _ _ _; rw [hsu.out]; exact hown5
          go_roundw
          case rel => exact ⟨k + 1, m + 1, c5, A5, by omega, rfl, by go_num, by omega, hown5, hb6.out⟩
          case measure => simp [intOf]; omega
        · rw [decide_eq_false hl, Bool.and_false] at hsu
          have hlb2 : (lb == i) = false := by rw [beq_eq_false_iff_ne]; exact hl
          replace hown : Hid (Own 1 iv wr w.heap.size 2 A m c (nxtE (es.take (k + 1)) s i)) := by show Own _ _ _ _ _ _ _ _ _; rw [hsu]; simpa using hown.out
          subst hf
          clear hx hsu hl
          go_wp2_with fail
          go_roundw
          case rel => exact ⟨k + 1, m, c, A, by omega, rfl, by go_num, by omega, hown, hb.out⟩
          case measure => simp [intOf]; omega
      · rw [decide_eq_false hf, Bool.false_and] at hsu
        have hf2 : (f == s) = false := by rw [beq_eq_false_iff_ne]; exact hf
        replace hown : Hid (Own 1 iv wr w.heap.size 2 A m c (nxtE (es.take (k + 1)) s i)) := by show Own _ _ _ _ _ _ _ _ _; rw [hsu]; simpa using hown.out
        clear hx hsu hf
        go_wp2_with fail
        go_roundw
        case rel => exact ⟨k + 1, m, c, A, by omega, rfl, by go_num, by omega, hown, hb.out⟩
        case measure => simp [intOf]; omega
    · have hkn : k = n3 := by omega
      have hall : es.take k = es := List.take_of_length_le (by rw [l3.out, hkn]; exact Nat.le_refl _)
      rw [hall] at hown
      replace hb := hide hb
      go_wp2
      go_ret
      exact ⟨A, m, c, rfl, hown.out.sl flat_iv, by omega, hb.out⟩

set_option maxRecDepth 100000 in
set_option maxHeartbeats 1600000 in
theorem l11Texts_calls (A : Option Addr) (n c : Nat) (B : Option Addr) (m j : Nat) (l r : List ByteArray) (w : World) (lo hi lo' hi' : Nat) (h : SlS w lo hi A n l) (g : SlS w lo' hi' B m r) (hn : n ≤ 1048576) (hm : m ≤ 1048576) :
    Calls Tryz.prog 66 #[.slice A n c, .slice B m j] w fun e w' => e = .returned (.bool (decide (l = r))) ∧ ∃ nq, w' = w.drewN nq := by
  have hl := h.len
  have hr := g.len
  by_cases hnm : n = m
  · subst hnm
    replace h := hide h
    replace g := hide g
    have hl' := hide hl
    have hr' := hide hr
    clear hl hr hm
    go_enter Tryz.func66, Tryz.ntmps66
    go_upto_region 4 with fail
    go_loopg [5] n (fun G i wr => ∃ (k nq : Nat), k ≤ n ∧ i = .int .i64 (k : Nat) ∧ Hid (l.take k = r.take k) ∧ Hid (n - k ≤ G) ∧ Hid (wr = w.drewN nq))
    case atStart => exact ⟨0, 0, Nat.zero_le _, rfl, rfl, by show _ ≤ _; omega, rfl⟩
    case round =>
      obtain ⟨k, nq, hk, rfl, ha, hG, hwr⟩ := hrel
      by_cases hlt : k < n
      · obtain ⟨G2, rfl⟩ : ∃ G2, gk = G2 + 1 := ⟨gk - 1, by have := hG.out; omega⟩
        have hG2 : Hid (n - (k + 1) ≤ G2) := by have := hG.out; show _ ≤ _; omega
        obtain ⟨b, off, x, rfl, -, -, -, hx, x0, -⟩ := SlS.get h.out hlt
        obtain ⟨b', off', y, rfl, -, -, -, hy, y0, -⟩ := SlS.get g.out hlt
        replace x0 : wr.cell? ⟨b, off + k, none⟩ = some (.string x) := by rw [hwr.out]; exact x0
        replace y0 : wr.cell? ⟨b', off' + k, none⟩ = some (.string y) := by rw [hwr.out]; exact y0
        have hI0 : (0 : Int) ≤ (k : Int) := by omega
        have hI1 : (k : Int) < (n : Int) := by omega
        by_cases hq : x = y
        · subst hq
          have hnext : Hid (l.take (k + 1) = r.take (k + 1)) := by show _ = _; rw [List.take_add_one, List.take_add_one, hx, hy, ha.out]
          have hself : (x.toList == x.toList) = true := beq_self_eq_true _
          clear hx hy ha
          go_wp2_with fail
          go_quiet (fail)
          go_wp2_with fail
          go_roundg G2
          case measure => omega
          case rel => exact ⟨k + 1, _, by omega, by go_num, hnext, hG2, (by show _ = _; rw [hwr.out, World.drewN_drewN])⟩
        · obtain ⟨hne, hne2⟩ := str_list_ne3 (a := y) (b := x) (fun e => hq e.symm)
          have hd : Hid (decide (l = r) = false) := decide_eq_false fun e => hq (by rw [e] at hx; exact Option.some.inj (hx.symm.trans hy))
          clear hx hy ha hq
          go_wp2_with fail
          go_quiet (fail)
          go_wp2_with fail
          go_ret
          exact ⟨ret_b (by rw [hd.out]), _, by rw [hwr.out, World.drewN_drewN]⟩
      · have hkn : k = n := by omega
        subst hkn
        have hd : Hid (decide (l = r) = true) := decide_eq_true (by
          have := ha.out
          rwa [List.take_of_length_le (by rw [hl'.out]; exact Nat.le_refl _), List.take_of_length_le (by rw [hr'.out]; exact Nat.le_refl _)] at this)
        clear ha
        go_wp2_with fail
        go_ret
        exact ⟨ret_b (by rw [hd.out]), nq, hwr.out⟩
  · have hd : Hid (decide (l = r) = false) := decide_eq_false fun e => hnm (by rw [← hl, ← hr, e])
    have hne : ((n : Int) == (m : Int)) = false := by rw [beq_eq_false_iff_ne]; omega
    clear h g hl hr
    go_enter Tryz.func66, Tryz.ntmps66
    go_wp2_with fail
    go_ret
    exact ⟨ret_b (by rw [hd.out]), 0, rfl⟩

end Go.Proofs.YthlaoedpjloloaaGreatDoor
