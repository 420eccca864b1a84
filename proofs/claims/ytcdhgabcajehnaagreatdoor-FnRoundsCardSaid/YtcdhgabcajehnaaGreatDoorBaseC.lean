/-
  Several texts in one:
  slices.IndexFunc and slices.ContainsFunc at whatever function value that answers a bool and changes nothing that was there. Conditions: at most 1048576 elements.
  slices.IndexFunc on rows of numbers and on edges: the first at which the test holds; slices.Equal on numbers. Conditions: at most 1048576 elements.
  The reference's test of a label. Conditions: sizes.
  Lists of bool and of numbers in memory. Conditions: at most 1048576 elements.
  Classes by the first state of each, and the normal form of a list: plain. Conditions: none.
  The program's reading of one number. Conditions: sizes.
  The program's reading of lists of numbers, joining, tests of values. Conditions: sizes.
  The program's reading of a label. Conditions: sizes.
  The program's test of a label, and its name. Conditions: sizes.
  The reference's tests of labels' lists. Conditions: sizes.
  The reference's tests of systems. Conditions: sizes.
  The reference's test of a system, whole. Conditions: sizes.
  The reference's tests of determinism and of monitors' parts. Conditions: sizes.
  Maps from numbers to numbers, lists of the first numbers, and the normal form of a list, by the program. Conditions: sizes.
  The normal form of a list, by the program: block numbers by first occurrence. Conditions: sizes.
  The partition by equal keys, by the program. Conditions: sizes.
  Rows of lists of numbers that grow, their handles in one block. Conditions: none.
-/
import Derived.Test.YtcdhgabcajehnaaGreatDoorBaseA
import Derived.Test.YtcdhgabcajehnaaGreatDoorBaseB
import Derived.Test.YtcdhgabcajehnaaGreatDoorRows
import Derived.LoopTactic
import Derived.Outline
import Derived.WalkSpells
import Derived.Laws.CopyOwn
import Derived.Laws.Bits64b
import Derived.StillTailTactics
import Derived.Deep.RegionLaw
import Derived.Deep.LoopGhost
import Derived.Lib.ItoaLen
import Derived.Lib.QuietBelow
import Derived.BigQuiet
import Derived.Laws.Cover1
import Derived.IntWalk
import Derived.Maps.OwnSet
import Derived.Maps.Views
import Derived.Carry
set_option linter.unusedSimpArgs false
set_option linter.unusedVariables false
namespace Go.Proofs.YtcdhgabcajehnaaGreatDoor
open Go.ChangeShapes Go.WideShapes Go.ChangeAt Go.RowKit
set_option linter.unusedVariables false

/-- What a predicate's call leaves. -/
def Says (b : Bool) (W : World) (e : Ending) (W' : World) : Prop := e = .returned (.bool b) ∧ Below W.heap.size W W'

theorem any_take_succ {α : Type} {G : α → Bool} {l : List α} {k : Nat} {x : α} (h : (l.take k).any G = false) (hx : l[k]? = some x) (hg : G x = false) : (l.take (k + 1)).any G = false := by
  rw [List.take_add_one, hx, List.any_append, h]
  simp [hg]
theorem any_hit {α : Type} {G : α → Bool} {l : List α} {k : Nat} {x : α} (hx : l[k]? = some x) (hg : G x = true) : l.any G = true :=
  List.any_eq_true.2 ⟨x, List.mem_of_getElem? hx, hg⟩

set_option maxRecDepth 100000 in
theorem indexFuncI_calls (F : FuncId) (caps : Array Value) (G : Int → Bool) (A : Option Addr) (n c : Nat) (l : List Int) (w : World) (lo hi : Nat) (h : SlI w lo hi A n l) (hn : n ≤ 1048576)
    (hF : ∀ (v : Value) (W : World), Sem.run Tryz.prog (callFunc F (#[v] ++ caps)) W = .ok (.enter F (#[v] ++ caps)) W)
    (hcl : ∀ (v : Int) (W : World), Below w.heap.size w W → Calls Tryz.prog F (#[.int .i64 v] ++ caps) W (Says (G v) W)) :
    Calls Tryz.prog 78 #[.slice A n c, .func (.func F) #[] caps] w fun e w' => ∃ i : Int, e = .returned (.int .i64 i) ∧ decide (0 ≤ i) = l.any G ∧ Below w.heap.size w w' := by
  have hlen := hide h.len
  replace hcl := hide hcl
  go_enter Tryz.func78, Tryz.ntmps78
  go_wp2
  go_loopw [8] (fun i wr => ∃ k : Nat, k ≤ n ∧ i = .int .i64 k ∧ Below w.heap.size w wr ∧ Hid ((l.take k).any G = false)) (fun i _ => n - (intOf i).toNat)
  case atStart => exact ⟨0, Nat.zero_le _, rfl, Below.refl _ _, rfl⟩
  case round =>
    obtain ⟨k, hk, rfl, hb, ha⟩ := hrel
    by_cases hlt : k < n
    · obtain ⟨b, off, x, rfl, g1, g2, g3, hx, c0, -⟩ := h.get hlt
      replace c0 := (hb.cell (p := ⟨b, off + k, none⟩) g3).trans c0
      have hc := hcl.out x wr hb
      replace hx := hide hx
      clear h hcl
      by_cases hg : G x = true
      · rw [hg] at hc
        replace hc := hide hc
        have hy := hide (any_hit hx.out hg)
        clear hg
        go_wp2_with fail
        refine hc.out.mono ?_
        rintro e w1 ⟨rfl, hb1⟩
        go_wp2_with fail
        go_ret
        exact ⟨_, rfl, by rw [hy.out]; simp, hb.trans (hb1.mono hb.size)⟩
      · replace hg := Bool.eq_false_iff.2 hg
        rw [hg] at hc
        replace hc := hide hc
        have hy := hide (any_take_succ ha.out hx.out hg)
        clear hg
        go_wp2_with fail
        refine hc.out.mono ?_
        rintro e w1 ⟨rfl, hb1⟩
        go_wp2_with fail
        go_roundw
        case rel => exact ⟨k + 1, by omega, by go_num, hb.trans (hb1.mono hb.size), hy⟩
        case measure => simp [intOf]; omega
    · have hkn : k = n := by omega
      subst hkn
      clear hcl
      go_wp2
      go_ret
      have hy := ha.out
      rw [List.take_of_length_le (by rw [hlen.out]; exact Nat.le_refl _)] at hy
      exact ⟨_, rfl, by rw [hy]; decide, hb⟩

theorem containsFuncI_calls (F : FuncId) (caps : Array Value) (G : Int → Bool) (A : Option Addr) (n c : Nat) (l : List Int) (w : World) (lo hi : Nat) (h : SlI w lo hi A n l) (hn : n ≤ 1048576)
    (hF : ∀ (v : Value) (W : World), Sem.run Tryz.prog (callFunc F (#[v] ++ caps)) W = .ok (.enter F (#[v] ++ caps)) W)
    (hcl : ∀ (v : Int) (W : World), Below w.heap.size w W → Calls Tryz.prog F (#[.int .i64 v] ++ caps) W (Says (G v) W)) :
    Calls Tryz.prog 39 #[.slice A n c, .func (.func F) #[] caps] w (Says (l.any G) w) := by
  have q := hide (indexFuncI_calls F caps G A n c l w lo hi h hn hF hcl)
  clear h hF hcl
  go_enter Tryz.func39, Tryz.ntmps39
  go_wp2_with fail
  refine q.out.mono ?_
  rintro e w1 ⟨i, rfl, hi, hb⟩
  replace hi := hide hi
  go_wp2_with fail
  go_ret
  exact ⟨ret_b hi.out.symm, hb⟩

end Go.Proofs.YtcdhgabcajehnaaGreatDoor

namespace Go.Proofs.YtcdhgabcajehnaaGreatDoor
open Go.ChangeShapes Go.WideShapes Go.ChangeAt Go.RowKit
set_option linter.unusedVariables false
set_option linter.unusedSimpArgs false

/-- The first element at which the test holds, or -1. -/
def fstG {α : Type} (G : α → Bool) (l : List α) (i : Int) : Prop := (i = -1 ∧ l.any G = false) ∨ ∃ k : Nat, i = k ∧ k < l.length ∧ (l.take k).any G = false ∧ ∃ x, l[k]? = some x ∧ G x = true
set_option maxRecDepth 100000 in
theorem equalI_calls (A B : Option Addr) (n m c d : Nat) (l r : List Int) (w : World) (lo hi lo' hi' : Nat) (h : SlI w lo hi A n l) (g : SlI w lo' hi' B m r) (hn : n ≤ 1048576) (hm : m ≤ 1048576) :
    Calls Tryz.prog 45 #[.slice A n c, .slice B m d] w fun e w' => e = .returned (.bool (decide (l = r))) ∧ Below w.heap.size w w' := by
  have hl := hide h.len
  have hr := hide g.len
  by_cases hnm : n = m
  · subst hnm
    replace h := hide h
    replace g := hide g
    go_enter Tryz.func45, Tryz.ntmps45
    go_wp2
    go_loopw [13] (fun i wr => ∃ k : Nat, k ≤ n ∧ i = .int .i64 k ∧ Below w.heap.size w wr ∧ l.take k = r.take k) (fun i _ => n - (intOf i).toNat)
    case atStart => exact ⟨0, Nat.zero_le _, rfl, (Below.refl _ _), rfl⟩
    case round =>
      obtain ⟨k, hk, rfl, hb, he⟩ := hrel
      replace he := hide he
      by_cases hlt : k < n
      · obtain ⟨b, off, x, rfl, g1, g2, g3, hx, c0, -⟩ := h.out.get hlt
        obtain ⟨b', off', y, rfl, g1', g2', g3', hy, d0, -⟩ := g.out.get hlt
        replace c0 := (hb.cell (p := ⟨b, off + k, none⟩) g3).trans c0
        replace d0 := (hb.cell (p := ⟨b', off' + k, none⟩) g3').trans d0
        replace hx := hide hx
        replace hy := hide hy
        clear h g
        have hk0 : (0 : Int) ≤ (k : Int) := by omega
        have hk1 : (k : Int) < (n : Int) := by omega
        by_cases hxy : x = y
        · subst hxy
          have hq : (x != x) = false := by simp
          go_wp2
          go_quiet (fail)
          go_wp2
          go_roundw
          case rel => exact ⟨k + 1, by omega, by go_num, by first | exact hb | exact ⟨hb.os, hb.tape, hb.output, hb.size, hb.block⟩, take_step he.out hx.out hy.out rfl⟩
          case measure => simp [intOf]; omega
        · have hne := hide (take_stop hx.out hy.out hxy)
          have hq : (x != y) = true := by rw [bne_iff_ne]; exact hxy
          go_wp2
          go_quiet (fail)
          go_wp2
          go_ret
          exact ⟨by simp [hne.out], by first | exact hb | exact ⟨hb.os, hb.tape, hb.output, hb.size, hb.block⟩⟩
      · have hkn : k = n := by omega
        subst hkn
        clear h g
        go_wp2
        go_ret
        exact ⟨by rw [take_all he.out hl.out hr.out]; simp, hb⟩
  · have hne : Hid (l ≠ r) := fun e => hnm (by rw [← hl.out, ← hr.out, e])
    have hb0 : ((n : Int) != (m : Int)) = true := by rw [bne_iff_ne]; omega
    clear h g
    go_enter Tryz.func45, Tryz.ntmps45
    go_wp2
    go_ret
    exact ⟨by simp [hne.out], Below.refl _ _⟩

set_option maxRecDepth 100000 in
theorem indexFuncR_calls (F : FuncId) (caps : Array Value) (G : List Int → Bool) (A : Option Addr) (n c : Nat) (R : List (Hd × List Int)) (w : World) (lo hi : Nat) (h : RowsI 1048576 w lo hi A n R) (hn : n ≤ 1048576)
    (hF : ∀ (v : Value) (W : World), Sem.run Tryz.prog (callFunc F (#[v] ++ caps)) W = .ok (.enter F (#[v] ++ caps)) W)
    (hcl : ∀ (A : Option Addr) (m d : Nat) (l : List Int) (W : World), ((A, m, d), l) ∈ R → Below w.heap.size w W → SlI W lo hi A m l → m ≤ 1048576 → Calls Tryz.prog F (#[.slice A m d] ++ caps) W (Says (G l) W)) :
    Calls Tryz.prog 71 #[.slice A n c, .func (.func F) #[] caps] w fun e w' => ∃ i : Int, e = .returned (.int .i64 i) ∧ fstG G (R.map (·.2)) i ∧ Below w.heap.size w w' := by
  have hlen : Hid (R.length = n) := by have := h.1.len; rwa [List.length_map] at this
  replace hcl := hide hcl
  replace h := hide h
  go_enter Tryz.func71, Tryz.ntmps71
  go_wp2
  go_loopw [8] (fun i wr => ∃ k : Nat, k ≤ n ∧ i = .int .i64 k ∧ Below w.heap.size w wr ∧ Hid (((R.map (·.2)).take k).any G = false)) (fun i _ => n - (intOf i).toNat)
  case atStart => exact ⟨0, Nat.zero_le _, rfl, Below.refl _ _, rfl⟩
  case round =>
    obtain ⟨k, hk, rfl, hb, ha⟩ := hrel
    by_cases hlt : k < n
    · have hxr : R[k]? = some (R[k]'(by have := hlen.out; omega)) := List.getElem?_eq_getElem _
      have hmem : (R[k]'(by have := hlen.out; omega)) ∈ R := List.getElem_mem _
      obtain ⟨hs0, hm0⟩ := h.out.2 _ hmem
      obtain ⟨b, off, hA, g1, g2, g3, hc0⟩ := h.out.1.at_ (show 0 < n by omega)
      have c0 := (hc0 k _ (by rw [List.getElem?_map, hxr]; rfl) 0 _ rfl).1
      rw [Nat.mul_one, Nat.add_zero] at c0
      generalize (R[k]'(by have := hlen.out; omega)) = r at *
      obtain ⟨⟨Ah, m, ch⟩, s⟩ := r
      (try dsimp only at hs0 hm0 c0)
      replace c0 := (hb.cell (p := ⟨b, off + k, none⟩) g3).trans c0
      subst hA
      have hc := hcl.out Ah m ch s wr hmem hb (hs0.below hb (.inr (Nat.le_refl _))) hm0
      have hx2 : (R.map (·.2))[k]? = some s := by rw [List.getElem?_map, hxr]; rfl
      replace hx2 := hide hx2
      clear h hcl hs0 hxr hmem hc0
      by_cases hg : G s = true
      · rw [hg] at hc
        replace hc := hide hc
        have hy : Hid (fstG G (R.map (·.2)) k) := .inr ⟨k, rfl, by rw [List.length_map, hlen.out]; exact hlt, ha.out, s, hx2.out, hg⟩
        clear hg
        go_wp2_with fail
        refine hc.out.mono ?_
        rintro e w1 ⟨rfl, hb1⟩
        go_wp2_with fail
        go_ret
        exact ⟨_, rfl, hy.out, hb.trans (hb1.mono hb.size)⟩
      · replace hg := Bool.eq_false_iff.2 hg
        rw [hg] at hc
        replace hc := hide hc
        have hy := hide (any_take_succ ha.out hx2.out hg)
        clear hg
        go_wp2_with fail
        refine hc.out.mono ?_
        rintro e w1 ⟨rfl, hb1⟩
        go_wp2_with fail
        go_roundw
        case rel => exact ⟨k + 1, by omega, by go_num, hb.trans (hb1.mono hb.size), hy⟩
        case measure => simp [intOf]; omega
    · have hkn : k = n := by omega
      subst hkn
      clear hcl h
      go_wp2
      go_ret
      have hy := ha.out
      rw [List.take_of_length_le (by rw [List.length_map, hlen.out]; exact Nat.le_refl _)] at hy
      exact ⟨_, rfl, .inl ⟨rfl, hy⟩, hb⟩

end Go.Proofs.YtcdhgabcajehnaaGreatDoor

namespace Go.Proofs.YtcdhgabcajehnaaGreatDoor
open Go.ChangeShapes Go.WideShapes Go.ChangeAt Go.RowKit
set_option linter.unusedVariables false

def nameL (l : List UInt8) : Bool := nameB (mkB l)
/-- Labels, by the reference. -/
def labS (s : ByteArray) : Bool := (valsS nameL s.data.toList).isSome
theorem nameL_data (s : ByteArray) : nameL s.data.toList = nameB s := by unfold nameL mkB; rw [bytes_eta]
def actB (s : ByteArray) : Bool := nameB s && !(decide (s = tauB))
theorem tau_list : tauB.toList = [116, 97, 117] := ByteArray.toList_mk _
theorem tau_ne {s : ByteArray} (h : s ≠ tauB) : (s.toList == [116, 97, 117]) = false := by rw [← tau_list]; exact str_neq h

theorem numsOf_none {f : List UInt8 → Option Int} : ∀ {l : List (List UInt8)} {k : Nat} {x : List UInt8}, l[k]? = some x → f x = none → numsOf f l = none
  | [], k, x, h, _ => by simp at h
  | y :: l, 0, x, h, hf => by
    simp at h
    subst h
    unfold numsOf
    rw [hf]
  | y :: l, k + 1, x, h, hf => by
    unfold numsOf
    rw [numsOf_none (l := l) (k := k) (by simpa using h) hf]
    split
    · rename_i h1; cases h1
    · rfl
theorem splitC_mem_len (c : UInt8) : ∀ (l x : List UInt8), x ∈ splitC c l → x.length ≤ l.length
  | [], x, h => by simp [splitC] at h; subst h; simp
  | y :: l, x, h => by
    have ih := splitC_mem_len c l
    by_cases hy : y = c
    · subst hy
      rw [splitC_ceq, List.mem_cons] at h
      rcases h with rfl | h
      · simp
      · have := ih x h
        simp only [List.length_cons]
        omega
    · rw [splitC_cne hy, List.mem_cons] at h
      obtain ⟨p, ps, hp⟩ := List.exists_cons_of_ne_nil (splitC_ne c l)
      rw [hp] at h ih
      simp only [List.headD_cons, List.tail_cons] at h
      rcases h with rfl | h
      · have := ih p (by simp)
        simp only [List.length_cons]
        omega
      · have := ih x (List.mem_cons_of_mem _ h)
        simp only [List.length_cons]
        omega
theorem elem_int : Elem Tryz.prog 31 2 1 8 := Elem.of Tryz.underlying31 info_int64 rfl (by decide) (by decide)

theorem labS_miss {s : ByteArray} (hn : (40 : UInt8) ∉ s.data.toList) : labS s = nameB s := by
  unfold labS valsS
  rw [if_pos hn, nameL_data]
  cases nameB s <;> rfl
end Go.Proofs.YtcdhgabcajehnaaGreatDoor

namespace Go.Proofs.YtcdhgabcajehnaaGreatDoor
open Go.ChangeShapes Go.WideShapes Go.ChangeAt Go.RowKit
set_option linter.unusedVariables false
set_option linter.unusedSimpArgs false

/-- A set of vertices as a list of answers. -/
def inS (s : List Bool) (v : Nat) : Bool := s[v]?.getD false
theorem inS_get {s : List Bool} {v : Nat} (h : v < s.length) : s[v]? = some (inS s v) := by unfold inS; rw [List.getElem?_eq_getElem h]; rfl
/-- The set of those below n that are as asked. -/
def setOf (n : Nat) (p : Nat → Bool) : List Bool := (List.range n).map p
theorem setOf_len (n : Nat) (p : Nat → Bool) : (setOf n p).length = n := by simp [setOf]
theorem setOf_get {n : Nat} {p : Nat → Bool} {v : Nat} (h : v < n) : (setOf n p)[v]? = some (p v) := by simp [setOf, h]
/-- A bool. -/
def bv (b : Bool) : List Value := [.bool b]
abbrev SlB := Sl 1 bv
section
variable {w w' : World} {lo hi n : Nat} {A : Option Addr}
theorem SlB.get {l : List Bool} (h : SlB w lo hi A n l) {k : Nat} (hk : k < n) :
    ∃ b off, A = some ⟨b, off, none⟩ ∧ lo ≤ b ∧ b < hi ∧ b < w.heap.size ∧ l[k]? = some (inS l k) ∧ w.cell? ⟨b, off + k, none⟩ = some (.bool (inS l k)) ∧ w.frozen? ⟨b, off + k, none⟩ = false := by
  obtain ⟨b, off, e, g1, g2, g3, hc⟩ := h.at_ (by omega)
  have hl : k < l.length := by rw [h.len]; exact hk
  have h0 := hc k (inS l k) (inS_get hl) 0 _ rfl
  simp only [Nat.mul_one, Nat.add_zero] at h0
  exact ⟨b, off, e, g1, g2, g3, inS_get hl, h0.1, h0.2⟩
theorem SlB.put {b off : Nat} {l : List Bool} (h : SlB w lo hi (some ⟨b, off, none⟩) n l) {k : Nat} (hk : k < n) (x : Bool) : SlB (w.setCell ⟨b, off + k, none⟩ (.bool x)) lo hi (some ⟨b, off, none⟩) n (l.set k x) := by
  have := h.putN hk (fun _ => rfl) x
  simpa [putCells, bv] using this
theorem SlI.put' {b off : Nat} {l : List Int} (h : SlI w lo hi (some ⟨b, off, none⟩) n l) {k : Nat} (hk : k < n) (x : Int) : SlI (w.setCell ⟨b, off + k, none⟩ (.int .i64 x)) lo hi (some ⟨b, off, none⟩) n (l.set k x) := h.put hk x
end

/-- Made by make([]bool, n). -/
theorem SlB.made (w : World) (n : Nat) : SlB (w.alloc (.cells (madeCells #[.bool false] n) 4)) w.heap.size (w.heap.size + 1) (some ⟨w.heap.size, 0, none⟩) n (setOf n fun _ => false) := by
  refine ⟨setOf_len _ _, fun hn => ⟨w.heap.size, 0, rfl, Nat.le_refl _, by omega, by simp, fun k x hx j u hu => ?_⟩⟩
  have hk : k < n := by
    have := (List.getElem?_eq_some_iff.1 hx).1
    rwa [setOf_len] at this
  rw [setOf_get hk] at hx
  cases hx
  have hj : j = 0 := by
    have := (List.getElem?_eq_some_iff.1 hu).1
    simp [bv] at this
    exact this
  subst hj
  simp [bv] at hu
  subst hu
  have hg := heap_alloc_new w (.cells (madeCells #[.bool false] n) 4)
  refine ⟨(cell_of_row _ _ _ _ _ (0, 0) hg).trans ?_, frozen_of_row _ _ _ _ _ hg⟩
  simp [madeCells, Value.cells, hk, Nat.mod_one]

/-- A list of which the first k places are filled. -/
def intK (n k : Nat) (p : Nat → Int) : List Int := (List.range n).map fun v => if v < k then p v else 0
theorem intK_len (n k : Nat) (p : Nat → Int) : (intK n k p).length = n := by simp [intK]
theorem intK_all (n : Nat) (p : Nat → Int) : intK n n p = (List.range n).map p := by
  unfold intK
  apply List.map_congr_left
  intro v hv
  rw [if_pos (List.mem_range.1 hv)]
theorem intK_step {n k : Nat} {p : Nat → Int} (hk : k < n) : (intK n k p).set k (p k) = intK n (k + 1) p := by
  apply List.ext_getElem?
  intro i
  by_cases e : k = i
  · subst e
    rw [List.getElem?_set_self (by rw [intK_len]; exact hk)]
    simp [intK, hk]
  · rw [List.getElem?_set_ne e]
    by_cases hi : i < n
    · simp only [intK, List.getElem?_map, List.getElem?_range hi, Option.map_some]
      have : (i < k) ↔ (i < k + 1) := by omega
      simp [this]
    · rw [List.getElem?_eq_none (by rw [intK_len]; omega), List.getElem?_eq_none (by rw [intK_len]; omega)]
theorem run_make_int (n : Nat) (hn : n ≤ 1048576) (W : World) : (Instr.makeSlice 31 (.int .i64 (n : Int)) (.int .i64 (n : Int))).run Tryz.prog W = .ok (.slice (some ⟨W.heap.size, 0, none⟩) n n) (W.alloc (.cells (madeCells #[.int .i64 0] n) 2)) := by
  obtain ⟨i0, hi0, hz0, hz1, hz2⟩ := info_parts info_int64
  have h := make_row (P := Tryz.prog) 31 2 i0 _ _ n Tryz.underlying31 hi0 hz0 hz1 (by rw [hz2]; omega) (by omega) W
  rw [Nat.mul_one] at h
  exact h
theorem SlI.made (w : World) (n : Nat) (p : Nat → Int) : SlI (w.alloc (.cells (madeCells #[.int .i64 0] n) 2)) w.heap.size (w.heap.size + 1) (some ⟨w.heap.size, 0, none⟩) n (intK n 0 p) := by
  refine ⟨intK_len _ _ _, fun hn => ⟨w.heap.size, 0, rfl, Nat.le_refl _, by omega, by simp, fun k x hx j u hu => ?_⟩⟩
  have hk : k < n := by
    have := (List.getElem?_eq_some_iff.1 hx).1
    rwa [intK_len] at this
  have hx0 : x = 0 := by
    simp only [intK, List.getElem?_map, List.getElem?_range hk, Option.map_some] at hx
    simp at hx
    exact hx.symm
  subst hx0
  have hj : j = 0 := by
    have := (List.getElem?_eq_some_iff.1 hu).1
    simp [iv] at this
    exact this
  subst hj
  simp [iv] at hu
  subst hu
  have hg := heap_alloc_new w (.cells (madeCells #[.int .i64 0] n) 2)
  refine ⟨(cell_of_row _ _ _ _ _ (0, 0) hg).trans ?_, frozen_of_row _ _ _ _ _ hg⟩
  simp [madeCells, hk, Nat.mod_one]

end Go.Proofs.YtcdhgabcajehnaaGreatDoor

namespace Go.Proofs.YtcdhgabcajehnaaGreatDoor
set_option linter.unusedVariables false
set_option linter.unusedSimpArgs false

/-- The place of a number in a list, or the list's length. -/
def plcE (l : List Nat) (n : Nat) : Nat := (l.findIdx? fun x => decide (x = n)).getD l.length
/-- The normal form of a list of numbers: the blocks in the order in which they come, and their numbers. -/
def nrmE (l : List Nat) : Nat → List Int × List Nat
  | 0 => ([], [])
  | k + 1 => match l[k]? with
    | none => nrmE l k
    | some n => ((nrmE l k).1 ++ [(plcE (nrmE l k).2 n : Int)], if n ∈ (nrmE l k).2 then (nrmE l k).2 else (nrmE l k).2 ++ [n])
end Go.Proofs.YtcdhgabcajehnaaGreatDoor

namespace Go.Proofs.YtcdhgabcajehnaaGreatDoor
open Go.ChangeShapes Go.WideShapes Go.ChangeAt Go.RowKit
set_option linter.unusedVariables false

set_option maxRecDepth 100000 in
set_option maxHeartbeats 800000 in
theorem readDecimal_calls (s : ByteArray) (hs : s.size ≤ 1048576) (w : World) (he : Env w) :
    Calls Tryz.prog 155 #[.string s] w fun e w' => e = .returned (numR (numS s.data.toList)) ∧ Below w.heap.size w w' := by
  rw [← numP_eq]
  have q1 : Calls Tryz.prog 175 #[.string s, .string ⟨#[45]⟩] w fun e w' => e = .returned (.string ⟨(Lib.trimPrefix s.data.toList [45]).toArray⟩) ∧ w' = w := Tryz.strings_TrimPrefix s ⟨#[45]⟩ w
  have hsz := bytes_size (Lib.trimPrefix s.data.toList [45])
  generalize (⟨(Lib.trimPrefix s.data.toList [45]).toArray⟩ : ByteArray) = t at *
  replace q1 := hide q1
  by_cases hl : 18 < (Lib.trimPrefix s.data.toList [45]).length
  · have hv := hide (numP_long hl)
    have hlt : (18 : Int) < (t.size : Int) := by omega
    clear hl hsz he
    go_enter Tryz.func155, Tryz.ntmps155
    go_wp2_with fail
    refine q1.out.mono ?_
    rintro e w1 ⟨rfl, rfl⟩
    go_wp2_with fail
    go_ret2
    exact ⟨by rw [hv.out]; rfl, Below.refl _ _⟩
  · have hlt : ¬ (18 : Int) < (t.size : Int) := by omega
    clear hsz
    rcases parse_short _ hl with ⟨v, hp, hb0, hb1⟩ | hp
    · have q2 := hide (((Tryz.strconv_ParseInt_10_at64_ok s (by omega) v hp w).mono fun e w' ⟨a, b⟩ => ⟨a, b.elim (fun h => h ▸ Below.refl _ _) (fun ⟨t, h⟩ => h ▸ Lib.bytesWorld_below _ _ _)⟩ :
        Calls Tryz.prog 176 #[.string s, .int .i64 10, .int .i64 64] w fun e w' => e = .returned (.tuple #[.int .i64 v, .nilIface]) ∧ Below w.heap.size w w'))
      have q3 := hide (fun W (hW : Below w.heap.size w W) => decimal_calls v hb0 hb1 W (he.below hW (Nat.le_refl _)))
      have hv := hide (numP_ok hl hp)
      clear hl hp he hb0 hb1
      by_cases hi : Lib.itoa v = s.data.toList
      · have hq : (⟨(Lib.itoa v).toArray⟩ : ByteArray) = s := by rw [hi, bytes_eta]
        have hv2 : Hid (numP s.data.toList = some v) := by show _ = _; rw [hv.out, if_pos hi]
        rw [hq] at q3
        clear hv hi hq
        go_enter Tryz.func155, Tryz.ntmps155
        go_wp2_with fail
        refine q1.out.mono ?_
        rintro e w1 ⟨rfl, rfl⟩
        go_wp2_with fail
        refine q2.out.mono ?_
        rintro e w2 ⟨rfl, hb2⟩
        go_wp2_with fail
        refine (q3.out _ hb2).mono ?_
        rintro e w3 ⟨rfl, hb3⟩
        go_wp2_with fail
        go_ret2
        exact ⟨by rw [hv2.out]; rfl, hb2.trans (hb3.mono hb2.size)⟩
      · have hq : (⟨(Lib.itoa v).toArray⟩ : ByteArray) ≠ s := by
          intro h
          apply hi
          rw [← h]
        have hv2 : Hid (numP s.data.toList = none) := by show _ = _; rw [hv.out, if_neg hi]
        have hne := str_neq hq
        clear hv hi hq
        generalize (⟨(Lib.itoa v).toArray⟩ : ByteArray) = u at *
        go_enter Tryz.func155, Tryz.ntmps155
        go_wp2_with fail
        refine q1.out.mono ?_
        rintro e w1 ⟨rfl, rfl⟩
        go_wp2_with fail
        refine q2.out.mono ?_
        rintro e w2 ⟨rfl, hb2⟩
        go_wp2_with fail
        refine (q3.out _ hb2).mono ?_
        rintro e w3 ⟨rfl, hb3⟩
        go_wp2_with fail
        go_ret2
        exact ⟨by rw [hv2.out]; rfl, hb2.trans (hb3.mono hb2.size)⟩
    · obtain ⟨tp, p, hvar⟩ := he.good.syn
      have q2 := hide (((Tryz.strconv_ParseInt_10_at64_syntax_var s (by omega) hp tp p w hvar).mono fun e w' ⟨N, a, _, _, b⟩ => ⟨N, a, b⟩ :
        Calls Tryz.prog 176 #[.string s, .int .i64 10, .int .i64 64] w fun e w' => ∃ N, e = .returned (.tuple #[.int .i64 0, .iface 225 (.pointer (some ⟨N, 0, none⟩))]) ∧ Below w.heap.size w w'))
      have hv := hide (numP_syn hp)
      clear hl hp he hvar
      go_enter Tryz.func155, Tryz.ntmps155
      go_wp2_with fail
      refine q1.out.mono ?_
      rintro e w1 ⟨rfl, rfl⟩
      go_wp2_with fail
      refine q2.out.mono ?_
      rintro e w2 ⟨N, rfl, hb2⟩
      go_wp2_with fail
      go_ret2
      exact ⟨by rw [hv.out]; rfl, hb2⟩

end Go.Proofs.YtcdhgabcajehnaaGreatDoor

namespace Go.Proofs.YtcdhgabcajehnaaGreatDoor
open Go.ChangeShapes Go.WideShapes Go.ChangeAt Go.RowKit
set_option linter.unusedVariables false

theorem numsOf_snoc {f : List UInt8 → Option Int} : ∀ {l : List (List UInt8)} {ns : List Int} {x : List UInt8} {v : Int}, numsOf f l = some ns → f x = some v → numsOf f (l ++ [x]) = some (ns ++ [v])
  | [], ns, x, v, h, hf => by
    cases h
    show numsOf f [x] = _
    unfold numsOf
    rw [hf]
    rfl
  | y :: l, ns, x, v, h, hf => by
    unfold numsOf at h
    split at h
    · rename_i n ms hn hm
      cases h
      rw [List.cons_append]
      unfold numsOf
      rw [hn, numsOf_snoc hm hf]
      rfl
    · cases h

def dataL (l : List ByteArray) : List (List UInt8) := l.map (·.data.toList)
/-- What readNumbers hands back. -/
def NumsR (w w' : World) (n : Nat) (o : Option (List Int)) (e : Ending) : Prop :=
  match o with
  | none => e = .returned (.tuple #[.slice none 0 0, .bool false])
  | some ns => ∃ A c, e = .returned (.tuple #[.slice A n c, .bool true]) ∧ SlI w' w.heap.size w'.heap.size A n ns

set_option maxRecDepth 100000 in
set_option maxHeartbeats 800000 in
theorem readNumbers_calls (A : Option Addr) (n c : Nat) (l : List ByteArray) (w : World) (lo hi : Nat) (h : SlS w lo hi A n l) (hn : n ≤ 1048577) (hs : ∀ s ∈ l, s.size ≤ 1048576) (he : Env w) :
    Calls Tryz.prog 121 #[.slice A n c] w fun e w' => NumsR w w' n (numsOf numS (dataL l)) e ∧ Below w.heap.size w w' := by
  have hE := hide elem_int
  have hlen := hide h.len
  replace hs := hide hs
  go_enter Tryz.func121, Tryz.ntmps121
  go_wp2
  go_loopw [4, 11] (fun o i wr => ∃ (k : Nat) (A5 : Option Addr) (c5 : Nat) (L : List Int), k ≤ n ∧ o = .slice A5 k c5 ∧ i = .int .i64 (k : Nat) ∧ Hid (Own 1 iv wr w.heap.size 2 A5 k c5 L) ∧ Hid (numsOf numS ((dataL l).take k) = some L) ∧ Below w.heap.size w wr) (fun _ i _ => n - (intOf i).toNat)
  case atStart => exact ⟨0, none, 0, [], Nat.zero_le _, rfl, rfl, Own.nil_ _ _ _, rfl, Below.refl _ _⟩
  case round =>
    obtain ⟨k, A5, c5, L, hk, rfl, rfl, hown, hall, hb⟩ := hrel
    have hz := hb.size
    by_cases hlt : k < n
    · obtain ⟨bb, off, x, rfl, g1, g2, g3, hx, cc0, -⟩ := SlS.get h hlt
      replace cc0 := (hb.cell (p := ⟨bb, off + k, none⟩) g3).trans cc0
      have hx2 : (dataL l)[k]? = some x.data.toList := by unfold dataL; rw [List.getElem?_map, hx]; rfl
      have q3 := readDecimal_calls x (hs.out x (List.mem_of_getElem? hx)) wr (he.below hb (Nat.le_refl _))
      have htk : (dataL l).take (k + 1) = (dataL l).take k ++ [x.data.toList] := by rw [List.take_add_one, hx2]; rfl
      cases hnx : numS x.data.toList with
      | none =>
        have hv : Hid (numsOf numS (dataL l) = none) := numsOf_none hx2 hnx
        rw [hnx] at q3
        have q4 : Hid (Calls Tryz.prog 155 #[.string x] wr fun e w' => e = .returned (.tuple #[.int .i64 0, .bool false]) ∧ Below wr.heap.size wr w') := q3
        clear hx hx2 hnx q3 htk hall hown h he
        go_wp2_with fail
        refine q4.out.mono ?_
        rintro e w2 ⟨rfl, hb2⟩
        go_wp2_with fail
        go_ret2
        refine ⟨?_, hb.trans (hb2.mono hz)⟩
        rw [hv.out]
        rfl
      | some v =>
        have hnext : Hid (numsOf numS ((dataL l).take (k + 1)) = some (L ++ [v])) := by
          show _ = _
          rw [htk]
          exact numsOf_snoc hall.out hnx
        rw [hnx] at q3
        have q4 : Hid (Calls Tryz.prog 155 #[.string x] wr fun e w' => e = .returned (.tuple #[.int .i64 v, .bool true]) ∧ Below wr.heap.size wr w') := q3
        clear hx hx2 hnx q3 htk hall h he
        go_wp2_with fail
        refine q4.out.mono ?_
        rintro e w2 ⟨rfl, hb2⟩
        have hown2 := hide (hown.out.below hb2 (Nat.le_refl _))
        have hb3 := hb.trans (hb2.mono hz)
        have hz3 := hb3.size
        have hza : ∀ o, w.heap.size ≤ (w2.alloc o).heap.size := fun o => by rw [World.size_alloc]; omega
        clear hb2 hown
        go_wp2_with (first | (at_builtin; (with_reducible refine wpList_app rfl (.tmp 22) (.tmp 24) rfl hE.out flat_iv rfl (hown2.out.alloc _) rfl (Sl.lit1' w2 2 v _ rfl 1 _ ?c0) ?c1 (hza _) ?_); rotate_right; intro A7 c7 w7 hown7 hgr7 hb7 _))
        case c0 => rfl
        case c1 => omega
        go_roundw
        case rel => exact ⟨k + 1, A7, c7, L ++ [v], by omega, rfl, by go_num, hown7, hnext, (hb3.alloc hz3 _).trans hb7⟩
        case measure => simp [intOf]; omega
    · have hkn : k = n := by omega
      subst hkn
      have hv : Hid (numsOf numS (dataL l) = some L) := by
        have := hall.out
        rw [List.take_of_length_le (by unfold dataL; rw [List.length_map, hlen.out]; exact Nat.le_refl _)] at this
        exact this
      go_wp2_with fail
      go_ret2
      refine ⟨?_, hb⟩
      rw [hv.out]
      exact ⟨A5, c5, rfl, hown.out.sl flat_iv⟩

theorem isValue_calls (v : Int) (w : World) : Calls Tryz.prog 184 #[.int .i64 v] w fun e w' => e = .returned (.bool (inB v 0 63)) ∧ w = w' := by
  have q := hide (within_calls v 0 63 w)
  go_enter Tryz.func184, Tryz.ntmps184
  go_wp2_with fail
  refine q.out.mono ?_
  rintro e w1 ⟨rfl, rfl⟩
  go_wp2_with fail
  go_ret
  exact ⟨rfl, rfl⟩
theorem areValues1_calls (v : Int) (w : World) : Calls Tryz.prog 183 #[.int .i64 v] w (Says (!(inB v 0 63)) w) := by
  have q := hide (isValue_calls v w)
  go_enter Tryz.func183, Tryz.ntmps183
  go_wp2_with fail
  refine q.out.mono ?_
  rintro e w1 ⟨rfl, rfl⟩
  go_wp2_with fail
  go_ret
  exact ⟨rfl, Below.refl _ _⟩
theorem areValues_calls (A : Option Addr) (n c : Nat) (L : List Int) (w : World) (lo hi : Nat) (h : SlI w lo hi A n L) (hn : n ≤ 1048576) :
    Calls Tryz.prog 159 #[.slice A n c] w (Says (L.all isVal) w) := by
  have q := hide (containsFuncI_calls 183 #[] (fun v => !(inB v 0 63)) A n c L w lo hi h hn (fun v W => by kernel_rfl) (fun v W _ => areValues1_calls v W))
  have hv : Hid (L.all isVal = !(L.any fun v => !(inB v 0 63))) := by
    show _ = _
    have : isVal = fun v => inB v 0 63 := rfl
    rw [this, List.not_any_eq_all_not]
    simp
  clear h
  go_enter Tryz.func159, Tryz.ntmps159
  go_wp2_with fail
  refine q.out.mono ?_
  rintro e w1 ⟨rfl, hb⟩
  go_wp2_with fail
  go_ret
  exact ⟨ret_b (by rw [hv.out]), hb⟩

theorem join_len (sep : List UInt8) (m : Nat) : ∀ xs : List (List UInt8), (∀ x ∈ xs, x.length ≤ m) → (Lib.join xs sep).length ≤ xs.length * (m + sep.length)
  | [], _ => by rw [Lib.join_nil]; simp
  | [x], h => by
    rw [Lib.join_one]
    have := h x (by simp)
    simp
    omega
  | x :: y :: r, h => by
    have ih := join_len sep m (y :: r) (fun z hz => h z (List.mem_cons_of_mem _ hz))
    have hx := h x (by simp)
    rw [join_cons2, List.length_append, List.length_append, List.length_cons, Nat.add_mul]
    omega

def decB (n : Int) : ByteArray := ⟨(Lib.itoa n).toArray⟩
set_option maxRecDepth 100000 in
set_option maxHeartbeats 800000 in
theorem joined_calls (A : Option Addr) (n c : Nat) (L : List Int) (w : World) (lo hi : Nat) (h : SlI w lo hi A n L) (hn : n ≤ 1048576) (hL : ∀ v ∈ L, -9223372036854775808 ≤ v ∧ v ≤ 9223372036854775807) (he : Env w) :
    Calls Tryz.prog 160 #[.slice A n c, .string ⟨#[44]⟩] w fun e w' => e = .returned (.string (mkB (Lib.join (L.map Lib.itoa) [44]))) ∧ Below w.heap.size w w' := by
  obtain ⟨i0, hi0, hz0, hz1, hz2⟩ := info_parts info_string
  have hmk := fun W => make_row (P := Tryz.prog) 24 9 i0 _ _ n Tryz.underlying24 hi0 hz0 hz1 (by rw [hz2]; omega) (by omega) W
  clear hi0 hz0 hz1 hz2
  have hlen := hide h.len
  replace hL := hide hL
  go_enter Tryz.func160, Tryz.ntmps160
  go_wp2
  go_loopw [13] (fun i wr => ∃ k : Nat, k ≤ n ∧ i = .int .i64 k ∧ Below w.heap.size w wr ∧ Fill 1 strv wr w.heap.size 9 n k (L.map decB)) (fun i _ => n - (intOf i).toNat)
  case atStart => exact ⟨0, Nat.zero_le _, rfl, (Below.refl _ _).alloc (Nat.le_refl _) _, Fill.start _ _ _ _ (by simp [madeCells])⟩
  case round =>
    obtain ⟨k, hk, rfl, hb, hf⟩ := hrel
    clear hmk
    by_cases hlt : k < n
    · obtain ⟨b, off, x, rfl, g1, g2, g3, hx, c0, -⟩ := h.get hlt
      replace c0 := (hb.cell (p := ⟨b, off + k, none⟩) g3).trans c0
      have hxb := hL.out x (List.mem_of_getElem? hx)
      have q := hide (decimal_calls x hxb.1 hxb.2 wr (he.below hb (Nat.le_refl _)))
      have hx2 : Hid ((L.map decB)[k]? = some (decB x)) := by show _ = _; rw [List.getElem?_map, hx]; rfl
      clear h hx hxb he
      go_wp2_with fail
      refine q.out.mono ?_
      rintro e w1 ⟨rfl, hb1⟩
      have hf1 := hf.keep (hb1.block _ hf.lt)
      obtain ⟨v0, d0⟩ := hf1.cell (i := k) (by omega)
      have z0 := hf1.frozen k
      go_wp2_with fail
      go_roundw
      case rel => exact ⟨k + 1, by omega, by go_num, (hb.trans (hb1.mono hb.size)).setCell (Nat.le_refl _) _, hf1.set1 hlt (fun _ => rfl) hx2.out rfl⟩
      case measure => simp [intOf]; omega
    · have hkn : k = n := by omega
      subst hkn
      have hml : (L.map decB).length = k := by rw [List.length_map]; exact hlen.out
      have hsl := hf.done hml (Nat.le_refl _) hf.lt
      have hdat : (L.map decB).map (·.data.toList) = L.map Lib.itoa := by rw [List.map_map]; rfl
      have hjl := join_len [44] 21 (L.map Lib.itoa) (fun y hy => by
        obtain ⟨v, hv, rfl⟩ := List.mem_map.1 hy
        exact Lib.itoa_length_le v (hL.out v hv).1 (hL.out v hv).2)
      rw [List.length_map, hlen.out, show 21 + ([44] : List UInt8).length = 22 from rfl] at hjl
      have q : Calls Tryz.prog 185 #[.slice (some ⟨w.heap.size, 0, none⟩) k k, .string ⟨#[44]⟩] wr fun e w' => e = .returned (.string (mkB (Lib.join (L.map Lib.itoa) [44]))) ∧ Below wr.heap.size wr w' := by
        have := Tryz.strings_Join w.heap.size 0 k (L.map decB) ⟨#[44]⟩ wr (fun j x hx => by
          have hj : j < k := by rw [← hml]; exact (List.getElem?_eq_some_iff.1 hx).1
          obtain ⟨b, off, e1, _, _, _, hcell⟩ := hsl.at_ (by omega)
          cases e1
          have := (hcell j x hx 0 _ rfl).1
          simpa using this) hf.lt (by rw [hml]; omega) (by rw [hml]; exact Nat.le_refl _) (by
            rw [hdat]
            show (Lib.join (L.map Lib.itoa) [44]).length ≤ _
            omega)
        rw [hml, hdat] at this
        exact this
      replace q := hide q
      clear h hsl hdat hjl he
      go_wp2_with fail
      refine q.out.mono ?_
      rintro e w1 ⟨rfl, hb1⟩
      go_wp2_with fail
      go_ret
      exact ⟨rfl, hb.trans (hb1.mono hb.size)⟩

end Go.Proofs.YtcdhgabcajehnaaGreatDoor

namespace Go.Proofs.YtcdhgabcajehnaaGreatDoor
open Go.ChangeShapes Go.WideShapes Go.ChangeAt Go.RowKit
set_option linter.unusedVariables false

theorem nameB_len {s : ByteArray} (h : nameB s = true) : s.size ≤ 10 := by
  unfold nameB at h
  rw [Bool.and_eq_true, decide_eq_true_eq] at h
  exact h.2.2
theorem isAction_calls (s : ByteArray) (w : World) (hs : s.size ≤ 1048576) : Calls Tryz.prog 158 #[.string s] w fun e w' => e = .returned (.bool (actB s)) ∧ w = w' := by
  have q := isName_calls s w (by unfold maxLen; omega)
  by_cases hn : nameB s = true
  · rw [hn] at q
    replace q := hide q
    by_cases ht : s = tauB
    · have hv : Hid (actB s = false) := by show _ = _; unfold actB; simp [ht]
      subst ht
      clear hn
      go_enter Tryz.func158, Tryz.ntmps158
      go_wp2_with (first | (go_at_call 182; (with_reducible refine q.out.mono ?_); rintro e w1 ⟨rfl, rfl⟩))
      go_ret
      exact ⟨ret_b (by rw [hv.out, tau_list]; rfl), rfl⟩
    · have hv : Hid (actB s = true) := by show _ = _; unfold actB; simp [ht, hn]
      have hne := tau_ne ht
      clear hn ht
      go_enter Tryz.func158, Tryz.ntmps158
      go_wp2_with (first | (go_at_call 182; (with_reducible refine q.out.mono ?_); rintro e w1 ⟨rfl, rfl⟩))
      go_ret
      exact ⟨ret_b (by rw [hv.out]), rfl⟩
  · replace hn := Bool.eq_false_iff.2 hn
    have hv : Hid (actB s = false) := by show _ = _; unfold actB; rw [hn]; rfl
    rw [hn] at q
    replace q := hide q
    clear hn
    go_enter Tryz.func158, Tryz.ntmps158
    go_wp2_with (first | (go_at_call 182; (with_reducible refine q.out.mono ?_); rintro e w1 ⟨rfl, rfl⟩))
    go_ret
    exact ⟨ret_b (by rw [hv.out]), rfl⟩

theorem isVal_bounds {L : List Int} (h : L.all isVal = true) : ∀ v ∈ L, -9223372036854775808 ≤ v ∧ v ≤ 9223372036854775807 := fun v hv => by
  have := (List.all_eq_true.1 h) v hv
  simp [isVal] at this
  omega

/-- What labelOf hands back. -/
def LabR (w w' : World) (o : Option (List UInt8)) (e : Ending) : Prop := ∃ t b, e = .returned (.tuple #[.string t, .bool b]) ∧ o = (if b then some t.data.toList else none) ∧ Below w.heap.size w w'

set_option maxRecDepth 100000 in
set_option maxHeartbeats 800000 in
theorem labelOf_calls (nm : ByteArray) (A : Option Addr) (n c : Nat) (L : List Int) (w : World) (lo hi : Nat) (hs : nm.size ≤ 1048576) (h : SlI w lo hi A n L) (hn : n ≤ 1048577) (he : Env w) :
    Calls Tryz.prog 124 #[.string nm, .slice A n c] w fun e w' => LabR w w' (labOf nameL nm.data.toList L) e := by
  have hlen := h.len
  have hq1 := isAction_calls nm w hs
  by_cases ht : nm = tauB
  · have htl : nm.data.toList = tauL := by rw [ht]; rfl
    by_cases h0 : n = 0
    · have hL0 : L = [] := List.eq_nil_of_length_eq_zero (by omega)
      have hv : Hid (labOf nameL nm.data.toList L = some tauL) := by show _ = _; unfold labOf; rw [if_pos htl, if_pos hL0]
      subst h0 ht
      clear hL0 htl hlen hq1 h he
      have htt : (tauB.toList == [116, 97, 117]) = true := by rw [tau_list]; rfl
      go_enter Tryz.func124, Tryz.ntmps124
      go_wp2_with fail
      go_ret2
      exact ⟨tauB, true, rfl, by rw [hv.out]; rfl, Below.refl _ _⟩
    · have hL0 : L ≠ [] := by rintro rfl; simp at hlen; omega
      have hv : Hid (labOf nameL nm.data.toList L = none) := by show _ = _; unfold labOf; rw [if_pos htl, if_neg hL0]
      have hb0 : ((n : Int) == 0) = false := by rw [beq_eq_false_iff_ne]; omega
      subst ht
      clear hL0 htl hlen hq1 h he
      have htt : (tauB.toList == [116, 97, 117]) = true := by rw [tau_list]; rfl
      go_enter Tryz.func124, Tryz.ntmps124
      go_wp2_with fail
      go_ret2
      exact ⟨tauB, false, rfl, by rw [hv.out]; rfl, Below.refl _ _⟩
  · have htl : nm.data.toList ≠ tauL := fun e => ht (by rw [← bytes_eta nm, e]; rfl)
    have hact : actB nm = nameB nm := by unfold actB; rw [decide_eq_false ht]; simp
    have hne := tau_ne ht
    have hq2 := areValues_calls A n c L w lo hi h
    cases hnm : nameB nm with
    | false =>
      have hv : Hid (labOf nameL nm.data.toList L = none) := by show _ = _; unfold labOf; rw [if_neg htl, nameL_data, hnm]; rfl
      rw [hact, hnm] at hq1
      replace hq1 := hide hq1
      clear hact htl ht hnm h he hq2 hlen
      go_enter Tryz.func124, Tryz.ntmps124
      go_wp2_with (first | (go_at_call 158; (with_reducible refine hq1.out.mono ?_); rintro e w1 ⟨rfl, rfl⟩))
      go_ret2
      exact ⟨⟨#[]⟩, false, rfl, by rw [hv.out]; rfl, Below.refl _ _⟩
    | true =>
      rw [hact, hnm] at hq1
      replace hq1 := hide hq1
      by_cases h2 : 2 < n
      · have hv : Hid (labOf nameL nm.data.toList L = none) := by
          show _ = _
          unfold labOf
          rw [if_neg htl, nameL_data, hnm, if_pos (by rw [hlen]; simp [h2])]
        have h2I : (2 : Int) < (n : Int) := by omega
        clear hact htl ht hnm h he hq2 hlen
        go_enter Tryz.func124, Tryz.ntmps124
        go_wp2_with (first | (go_at_call 158; (with_reducible refine hq1.out.mono ?_); rintro e w1 ⟨rfl, rfl⟩))
        go_ret2
        exact ⟨⟨#[]⟩, false, rfl, by rw [hv.out]; rfl, Below.refl _ _⟩
      · replace hq2 := hq2 (by omega)
        have h2I : ¬ (2 : Int) < (n : Int) := by omega
        have h2L : ¬ 2 < L.length := by omega
        cases hall : L.all isVal with
        | false =>
          have hv : Hid (labOf nameL nm.data.toList L = none) := by
            show _ = _
            unfold labOf
            rw [if_neg htl, nameL_data, hnm, if_pos (by rw [hall]; simp)]
          rw [hall] at hq2
          replace hq2 := hide hq2
          clear hact htl ht hnm h he hlen hall h2 h2L
          go_enter Tryz.func124, Tryz.ntmps124
          go_wp2_with (first | (go_at_call 158; (with_reducible refine hq1.out.mono ?_); rintro e w1 ⟨rfl, rfl⟩) | (go_at_call 159; (with_reducible refine hq2.out.mono ?_); rintro e w2 ⟨rfl, hb2⟩))
          go_ret2
          exact ⟨⟨#[]⟩, false, rfl, by rw [hv.out]; rfl, hb2⟩
        | true =>
          rw [hall] at hq2
          replace hq2 := hide hq2
          have hcond : ¬ ((!(nameL nm.data.toList) || decide (2 < L.length) || !(L.all isVal)) = true) := by rw [nameL_data, hnm, hall, decide_eq_false h2L]; decide
          by_cases h0 : n = 0
          · have hL0 : L = [] := List.eq_nil_of_length_eq_zero (by omega)
            have hv : Hid (labOf nameL nm.data.toList L = some nm.data.toList) := by
              show _ = _
              unfold labOf
              rw [if_neg htl, if_neg hcond, if_pos hL0]
            subst h0
            clear hact htl ht hnm h he hlen hall h2 h2L hcond hL0
            go_enter Tryz.func124, Tryz.ntmps124
            go_wp2_with (first | (go_at_call 158; (with_reducible refine hq1.out.mono ?_); rintro e w1 ⟨rfl, rfl⟩) | (go_at_call 159; (with_reducible refine hq2.out.mono ?_); rintro e w2 ⟨rfl, hb2⟩))
            go_ret2
            exact ⟨nm, true, rfl, by rw [hv.out]; rfl, hb2⟩
          · have hL0 : L ≠ [] := by rintro rfl; simp at hlen; omega
            have hb0 : ((n : Int) == 0) = false := by rw [beq_eq_false_iff_ne]; omega
            have q3 := hide (fun (W : World) (hW : Below w.heap.size w W) => joined_calls A n c L W lo hi (h.below hW (.inr (Nat.le_refl _))) (by omega) (isVal_bounds hall) (he.below hW (Nat.le_refl _)))
            have hjl := join_len [44] 21 (L.map Lib.itoa) (fun y hy => by
              obtain ⟨v, hv, rfl⟩ := List.mem_map.1 hy
              exact Lib.itoa_length_le v (isVal_bounds hall v hv).1 (isVal_bounds hall v hv).2)
            rw [List.length_map, show 21 + ([44] : List UInt8).length = 22 from rfl] at hjl
            have hv : Hid (labOf nameL nm.data.toList L = some (nm.data.toList ++ [40] ++ Lib.join (L.map Lib.itoa) [44] ++ [41])) := by
              show _ = _
              unfold labOf
              rw [if_neg htl, if_neg hcond, if_neg hL0]
            have hjs : (mkB (Lib.join (L.map Lib.itoa) [44])).size ≤ 44 := by rw [mkB_size]; omega
            have hnms := nameB_len hnm
            have hjd : Hid ((mkB (Lib.join (L.map Lib.itoa) [44])).data.toList = Lib.join (L.map Lib.itoa) [44]) := rfl
            clear hact htl ht hnm h he hlen hall h2 h2L hcond hL0 hjl
            generalize mkB (Lib.join (L.map Lib.itoa) [44]) = J at *
            go_enter Tryz.func124, Tryz.ntmps124
            go_wp2_with (first | (go_at_call 158; (with_reducible refine hq1.out.mono ?_); rintro e w1 ⟨rfl, rfl⟩) | (go_at_call 159; (with_reducible refine hq2.out.mono ?_); rintro e w2 ⟨rfl, hb2⟩))
            refine (q3.out _ hb2).mono ?_
            rintro e w3 ⟨rfl, hb3⟩
            go_wp2_with fail
            go_ret2
            refine ⟨_, true, rfl, ?_, hb2.trans (hb3.mono hb2.size)⟩
            rw [hv.out, ← hjd.out]
            simp [ByteArray.data_append]

end Go.Proofs.YtcdhgabcajehnaaGreatDoor

namespace Go.Proofs.YtcdhgabcajehnaaGreatDoor
open Go.ChangeShapes Go.WideShapes Go.ChangeAt Go.RowKit
set_option linter.unusedVariables false

theorem nameL_tau : nameL tauL = true := by decide
/-- The values that the program reads out of a label. -/
def numsR (l : List UInt8) : Option (List Int) := if (Lib.cut l [40]).2.2 then numsOf numS (splitC 44 (Lib.trimSuffix (Lib.cut l [40]).2.1 [41])) else some []
theorem labS_none {s : ByteArray} (h : numsR s.data.toList = none) : labS s = false := by
  unfold labS
  rw [← valsP_eq nameL nameL_tau]
  unfold valsP
  rw [numP_fun]
  unfold numsR at h
  rw [h]
  rfl
theorem labS_some {s : ByteArray} {ns : List Int} (h : numsR s.data.toList = some ns) : labS s = decide (labOf nameL (Lib.cut s.data.toList [40]).1 ns = some s.data.toList) := by
  unfold labS
  rw [← valsP_eq nameL nameL_tau]
  unfold valsP
  rw [numP_fun]
  unfold numsR at h
  rw [h]
  by_cases hc : labOf nameL (Lib.cut s.data.toList [40]).1 ns = some s.data.toList
  · simp only [if_pos hc, decide_eq_true hc]
    rfl
  · simp only [if_neg hc, decide_eq_false hc]
    rfl
theorem Sl.laid (w : World) (t : TypeId) (l : List ByteArray) (lo : Nat) (hlo : lo ≤ w.heap.size) : SlS (w.alloc (.cells (l.map Value.string).toArray t)) lo (w.heap.size + 1) (some ⟨w.heap.size, 0, none⟩) l.length l := by
  refine ⟨rfl, fun _ => ⟨w.heap.size, 0, rfl, hlo, by omega, by simp, fun k x hx j u hu => ?_⟩⟩
  match j, hu with
  | 0, hu =>
    simp [strv] at hu
    subst hu
    simp only [Nat.zero_add, Nat.mul_one, Nat.add_zero]
    have hg := heap_alloc_new w (.cells (l.map Value.string).toArray t)
    refine ⟨(cell_of_row _ _ k _ t (0, 0) hg).trans ?_, frozen_of_row _ _ _ _ t hg⟩
    simp [hx]
theorem split_data (t : ByteArray) : (Lib.splitB ⟨#[44]⟩ 0 (Lib.countB t ⟨#[44]⟩) t).map (·.data.toList) = splitC 44 t.data.toList := by
  rw [Lib.splitB_data, ← split_one]
  rfl
theorem split_calls (t : ByteArray) (w : World) (hs : t.size ≤ 1048576) (he : Env w) :
    Calls Tryz.prog 122 #[.string t, .string ⟨#[44]⟩] w fun e w' => ∃ A n PB, e = .returned (.slice A n n) ∧ SlS w' w.heap.size w'.heap.size A n PB ∧ dataL PB = splitC 44 t.data.toList ∧ n ≤ 1048577 ∧ (∀ s ∈ PB, s.size ≤ 1048576) ∧ Below w.heap.size w w' := by
  have hc := Lib.splitB_all ⟨#[44]⟩ (by decide) 0 _ t rfl
  have hd := split_data t
  refine (Tryz.strings_Split_shaped t ⟨#[44]⟩ w he.good.shape (by omega) (by decide)).mono ?_
  rintro e w' ⟨rfl, rfl⟩
  generalize Lib.splitB ⟨#[44]⟩ 0 (Lib.countB t ⟨#[44]⟩) t = PB at *
  rw [← hc]
  refine ⟨_, _, PB, rfl, ?_, hd, ?_, ?_, (Below.refl _ _).alloc (Nat.le_refl _) _⟩
  · rw [World.size_alloc]
    exact Sl.laid w _ PB _ (Nat.le_refl _)
  · have h1 := splitC_len 44 t.data.toList
    rw [← hd, List.length_map, bsize] at h1
    omega
  · intro s hsm
    have h1 := splitC_mem_len 44 t.data.toList s.data.toList (by rw [← hd]; exact List.mem_map.2 ⟨s, hsm, rfl⟩)
    rw [bsize, bsize] at h1
    omega

/-- What readLabel hands back. -/
def ReadLab (w w' : World) (s : ByteArray) (e : Ending) : Prop := ∃ nm A n c, e = .returned (.tuple #[.string nm, .slice A n c, .bool (labS s)]) ∧ nm = (if labS s then mkB (Lib.cut s.data.toList [40]).1 else ⟨#[]⟩) ∧ Below w.heap.size w w'

set_option maxRecDepth 100000 in
set_option maxHeartbeats 1600000 in
theorem readLabel_calls (s : ByteArray) (w : World) (hs : s.size ≤ 1048576) (he : Env w) :
    Calls Tryz.prog 102 #[.string s] w fun e w' => ReadLab w w' s e := by
  have q0 : Calls Tryz.prog 120 #[.string s, .string ⟨#[40]⟩] w fun e w' => e = .returned (.tuple #[.string (mkB (Lib.cut s.data.toList [40]).1), .string (mkB (Lib.cut s.data.toList [40]).2.1), .bool (Lib.cut s.data.toList [40]).2.2]) ∧ Below w.heap.size w w' :=
    (Tryz.strings_Cut_shaped s ⟨#[40]⟩ w he.good.shape (by omega)).mono fun e w' ⟨a, n, b⟩ => ⟨a, b ▸ below_drewN w n⟩
  have hS := @labS_some s
  have hN := @labS_none s
  have hlen : (Lib.cut s.data.toList [40]).1.length ≤ 1048576 ∧ (Lib.cut s.data.toList [40]).2.1.length ≤ 1048576 := by
    unfold Lib.cut
    have := bsize s
    split <;> simp only [List.length_take, List.length_drop, List.length_nil] <;> omega
  unfold numsR at hS hN
  generalize hcut : Lib.cut s.data.toList [40] = C at *
  obtain ⟨a, b, more⟩ := C
  dsimp only at *
  replace hcut := hide hcut
  have has : (mkB a).size ≤ 1048576 := by rw [mkB_size]; exact hlen.1
  replace q0 := hide q0
  have q5 := fun (A : Option Addr) (n c : Nat) (L : List Int) (W : World) (lo hi : Nat) (h : SlI W lo hi A n L) (hn : n ≤ 1048577) (hW : Below w.heap.size w W) => labelOf_calls (mkB a) A n c L W lo hi has h hn (he.below hW (Nat.le_refl _))
  rw [mkB_data] at q5
  replace q5 := hide q5
  cases more with
  | false =>
    have hS2 := hide (hS (ns := []) rfl)
    clear hS hN he
    go_enter Tryz.func102, Tryz.ntmps102
    go_wp2_with fail
    refine q0.out.mono ?_
    rintro e w1 ⟨rfl, hb1⟩
    go_wp2_with fail
    refine (q5.out none 0 0 [] w1 0 0 Sl.nil_ (by omega) hb1).mono ?_
    rintro e w9 ⟨t, ok, rfl, hok, hb9⟩
    replace hb9 := hb1.trans (hb9.mono hb1.size)
    cases ok with
    | false =>
      have hv : Hid (labS s = false) := by
        show _ = _
        rw [hS2.out, hok]
        simp
      clear hS2 hok
      go_wp2_with fail
      go_returns
      exact ⟨⟨#[]⟩, none, 0, 0, by rw [hv.out]; rfl, by rw [hv.out]; rfl, hb9⟩
    | true =>
      by_cases hts : t = s
      · have hv : Hid (labS s = true) := by
          show _ = _
          rw [hS2.out, hok, hts]
          simp
        subst hts
        clear hS2 hok
        go_wp2_with fail
        go_returns
        exact ⟨mkB a, none, 0, 0, by rw [hv.out]; rfl, by rw [hv.out, hcut.out]; rfl, hb9⟩
      · have hv : Hid (labS s = false) := by
          show _ = _
          rw [hS2.out, hok, decide_eq_false_iff_not]
          intro e
          apply hts
          have := Option.some.inj e
          rw [← bytes_eta t, this, bytes_eta]
        have hne := str_neq hts
        clear hS2 hok hts
        go_wp2_with fail
        go_returns
        exact ⟨⟨#[]⟩, none, 0, 0, by rw [hv.out]; rfl, by rw [hv.out]; rfl, hb9⟩
  | true =>
    simp only [if_true] at hS hN
    have q1 : ∀ W, Calls Tryz.prog 123 #[.string (mkB b), .string ⟨#[41]⟩] W fun e w' => e = .returned (.string (mkB (Lib.trimSuffix b [41]))) ∧ w' = W := fun W => Tryz.strings_TrimSuffix (mkB b) ⟨#[41]⟩ W (by rw [mkB_size]; omega)
    have htl : (Lib.trimSuffix b [41]).length ≤ 1048576 := by
      unfold Lib.trimSuffix
      split
      · rw [List.length_take]; omega
      · exact hlen.2
    have q2 := fun (W : World) (hW : Below w.heap.size w W) => split_calls (mkB (Lib.trimSuffix b [41])) W (by rw [mkB_size]; exact htl) (he.below hW (Nat.le_refl _))
    rw [mkB_data] at q2
    have q3 := fun (A : Option Addr) (n c : Nat) (l : List ByteArray) (W : World) (lo hi : Nat) (h : SlS W lo hi A n l) (hn : n ≤ 1048577) (hss : ∀ s ∈ l, s.size ≤ 1048576) (hW : Below w.heap.size w W) => readNumbers_calls A n c l W lo hi h hn hss (he.below hW (Nat.le_refl _))
    replace q1 := hide q1
    replace q2 := hide q2
    replace q3 := hide q3
    clear he htl hlen
    cases hns : numsOf numS (splitC 44 (Lib.trimSuffix b [41])) with
    | none =>
      have hv : Hid (labS s = false) := hN hns
      replace hns := hide hns
      clear hS hN q5
      go_enter Tryz.func102, Tryz.ntmps102
      go_wp2_with fail
      refine q0.out.mono ?_
      rintro e w1 ⟨rfl, hb1⟩
      go_wp2_with fail
      refine (q1.out _).mono ?_
      rintro e w2 ⟨rfl, rfl⟩
      go_wp2_with fail
      refine (q2.out _ hb1).mono ?_
      rintro e w3 ⟨A3, n3, PB, rfl, hsl, hdat, hn3, hps, hb3⟩
      replace hb3 := hb1.trans (hb3.mono hb1.size)
      have q4 := q3.out A3 n3 n3 PB w3 _ _ hsl hn3 hps hb3
      rw [hdat, hns.out] at q4
      replace q4 := hide q4
      clear hsl hdat hps
      go_wp2_with fail
      refine q4.out.mono ?_
      rintro e w4 ⟨he4, hb4⟩
      change e = _ at he4
      subst he4
      go_wp2_with fail
      go_returns
      exact ⟨⟨#[]⟩, none, 0, 0, by rw [hv.out]; rfl, by rw [hv.out]; rfl, hb3.trans (hb4.mono hb3.size)⟩
    | some ns =>
      have hS2 := hide (hS hns)
      replace hns := hide hns
      clear hS hN
      go_enter Tryz.func102, Tryz.ntmps102
      go_wp2_with fail
      refine q0.out.mono ?_
      rintro e w1 ⟨rfl, hb1⟩
      go_wp2_with fail
      refine (q1.out _).mono ?_
      rintro e w2 ⟨rfl, rfl⟩
      go_wp2_with fail
      refine (q2.out _ hb1).mono ?_
      rintro e w3 ⟨A3, n3, PB, rfl, hsl, hdat, hn3, hps, hb3⟩
      replace hb3 := hb1.trans (hb3.mono hb1.size)
      have q4 := q3.out A3 n3 n3 PB w3 _ _ hsl hn3 hps hb3
      rw [hdat, hns.out] at q4
      replace q4 := hide q4
      clear hsl hdat hps
      go_wp2_with fail
      refine q4.out.mono ?_
      rintro e w4 ⟨⟨A4, c4, rfl, hs4⟩, hb4⟩
      replace hb4 := hb3.trans (hb4.mono hb3.size)
      replace hs4 := hide hs4
      go_wp2_with fail
      refine (q5.out A4 n3 c4 ns w4 _ _ hs4.out hn3 hb4).mono ?_
      rintro e w9 ⟨t, ok, rfl, hok, hb9⟩
      replace hb9 := hb4.trans (hb9.mono hb4.size)
      cases ok with
      | false =>
        have hv : Hid (labS s = false) := by
          show _ = _
          rw [hS2.out, hok]
          simp
        clear hS2 hok
        go_wp2_with fail
        go_returns
        exact ⟨⟨#[]⟩, none, 0, 0, by rw [hv.out]; rfl, by rw [hv.out]; rfl, hb9⟩
      | true =>
        by_cases hts : t = s
        · have hv : Hid (labS s = true) := by
            show _ = _
            rw [hS2.out, hok, hts]
            simp
          subst hts
          clear hS2 hok
          go_wp2_with fail
          go_returns
          exact ⟨mkB a, A4, n3, c4, by rw [hv.out]; rfl, by rw [hv.out, hcut.out]; rfl, hb9⟩
        · have hv : Hid (labS s = false) := by
            show _ = _
            rw [hS2.out, hok, decide_eq_false_iff_not]
            intro e
            apply hts
            have := Option.some.inj e
            rw [← bytes_eta t, this, bytes_eta]
          have hne := str_neq hts
          clear hS2 hok hts
          go_wp2_with fail
          go_returns
          exact ⟨⟨#[]⟩, none, 0, 0, by rw [hv.out]; rfl, by rw [hv.out]; rfl, hb9⟩

theorem isLabel_calls (s : ByteArray) (w : World) (hs : s.size ≤ 1048576) (he : Env w) :
    Calls Tryz.prog 63 #[.string s] w fun e w' => e = .returned (.bool (labS s)) ∧ Below w.heap.size w w' := by
  have q := hide (readLabel_calls s w hs he)
  clear he
  go_enter Tryz.func63, Tryz.ntmps63
  go_wp2_with fail
  refine q.out.mono ?_
  rintro e w1 ⟨nm, A, n, c, rfl, -, hb⟩
  go_wp2_with fail
  go_ret
  exact ⟨rfl, hb⟩

end Go.Proofs.YtcdhgabcajehnaaGreatDoor

namespace Go.Proofs.YtcdhgabcajehnaaGreatDoor
open Go.ChangeShapes Go.WideShapes Go.ChangeAt Go.RowKit Go.Sort
set_option linter.unusedVariables false

theorem labS_tau : labS tauB = true := by
  have h : (40 : UInt8) ∉ tauB.data.toList := by decide
  rw [labS_miss h]
  decide
def sLess (a b : ByteArray) : Bool := Op.bytesLess a.toList b.toList
theorem bytesLess_total : ∀ a b : List UInt8, (!(Op.bytesLess a b || a == b)) = Op.bytesLess b a
  | [], [] => rfl
  | [], _ :: _ => by simp [Op.bytesLess]
  | _ :: _, [] => by simp [Op.bytesLess]
  | x :: a, y :: b => by
    have ih := bytesLess_total a b
    simp only [Op.bytesLess]
    by_cases h1 : x = y
    · subst h1
      have h2 : ¬ x < x := by rw [UInt8.lt_iff_toNat_lt]; omega
      simp only [decide_eq_false h2, Bool.false_or, beq_self_eq_true, Bool.true_and]
      rw [← ih]
      congr 2
      simp
    · have h3 : ¬ y = x := fun e => h1 e.symm
      have hn : x.toNat ≠ y.toNat := fun e => h1 (UInt8.toNat_inj.1 e)
      by_cases h2 : x < y
      · have h4 : ¬ y < x := by rw [UInt8.lt_iff_toNat_lt] at h2 ⊢; omega
        simp [h2, h3, h4]
      · have h4 : y < x := by rw [UInt8.lt_iff_toNat_lt] at h2 ⊢; omega
        simp [h1, h2, h4]
abbrev okL := okLab labS sLess
theorem okL_at {l : List ByteArray} {k : Nat} {x y : ByteArray} (hx : l[k]? = some x) (hk : 0 < k) (hy : l[k - 1]? = some y) : okL l k = ((labS x && !(decide (x = tauB))) && (decide (k ≤ 1) || sLess y x)) := by
  show okLab labS sLess l k = _
  unfold okLab
  rw [hx, hy]
  have : decide (k = 0) = false := decide_eq_false (by omega)
  simp only [this]
  cases h : decide (x = tauB) <;> rfl
theorem okL_zero {l : List ByteArray} {x : ByteArray} (hx : l[0]? = some x) : okL l 0 = decide (x = tauB) := by
  show okLab labS sLess l 0 = _
  unfold okLab
  rw [hx]
  by_cases h : x = tauB
  · subst h
    simp [labS_tau]
  · simp [h]
def namesB (l : List ByteArray) : Bool := inB (l.length : Int) 1 12 && allK (okL l) l.length

end Go.Proofs.YtcdhgabcajehnaaGreatDoor

namespace Go.Proofs.YtcdhgabcajehnaaGreatDoor
open Go.ChangeShapes Go.WideShapes Go.ChangeAt Go.RowKit Go.Sort
set_option linter.unusedVariables false

theorem same_regrown {f : FuncId} {args : Array Value} {w : World} {v : Value} (h : ∀ W, Calls Tryz.prog f args W fun e w' => e = .returned v ∧ W = w') (d : Nat) (os : Array Obj) :
    Calls Tryz.prog f args (grow (redrawn w d) os) fun e w'' => e = .returned v ∧ ∃ p : Regrown, w'' = grow (redrawn w p.d) p.os := (h _).mono fun _ _ ⟨a, b⟩ => ⟨a, ⟨d, os⟩, b.symm⟩

/-- A system at a known address. -/
def LtsAt (w : World) (bt : Nat) (x : CL) (d : DL) : Prop := ReadL w 0 w.heap.size x d ∧ totL d ≤ 1048576 ∧ bt < w.heap.size ∧ w.cell? ⟨bt, 0, none⟩ = some (.int .i64 x.1) ∧ w.cell? ⟨bt, 1, none⟩ = some (.int .i64 x.2.1) ∧ w.cell? ⟨bt, 2, none⟩ = some x.2.2.1 ∧ w.cell? ⟨bt, 3, none⟩ = some x.2.2.2
theorem LtsAt.below {w w' : World} {bt B : Nat} {x : CL} {d : DL} (h : LtsAt w bt x d) (hb : Below B w w') (hB : w.heap.size ≤ B) : LtsAt w' bt x d := by
  obtain ⟨h1, h2, h3, c0, c1, c2, c3⟩ := h
  have hs := hb.size
  exact ⟨(h1.below hb (.inr hB)).more (Nat.le_refl _) hs, h2, by omega, (hb.cell (p := ⟨bt, 0, none⟩) (by show bt < B; omega)).trans c0, (hb.cell (p := ⟨bt, 1, none⟩) (by show bt < B; omega)).trans c1, (hb.cell (p := ⟨bt, 2, none⟩) (by show bt < B; omega)).trans c2, (hb.cell (p := ⟨bt, 3, none⟩) (by show bt < B; omega)).trans c3⟩

set_option maxHeartbeats 800000 in
theorem l11Less_calls (b1 o1 b2 o2 : Nat) (x1 x2 x3 y1 y2 y3 : Int) (w : World)
    (c0 : w.cell? ⟨b1, o1, none⟩ = some (.int .i64 x1)) (c1 : w.cell? ⟨b1, o1 + 1, none⟩ = some (.int .i64 x2)) (c2 : w.cell? ⟨b1, o1 + 2, none⟩ = some (.int .i64 x3))
    (d0 : w.cell? ⟨b2, o2, none⟩ = some (.int .i64 y1)) (d1 : w.cell? ⟨b2, o2 + 1, none⟩ = some (.int .i64 y2)) (d2 : w.cell? ⟨b2, o2 + 2, none⟩ = some (.int .i64 y3)) :
    Calls Tryz.prog 119 #[.pointer (some ⟨b1, o1, none⟩), .pointer (some ⟨b2, o2, none⟩)] w fun e w' => e = .returned (.bool (edLess (x1, x2, x3) (y1, y2, y3))) ∧ ∃ m, w' = w.drewN m := by
  by_cases h1 : x1 = y1
  · subst h1
    by_cases h2 : x2 = y2
    · subst h2
      have hv : Hid (edLess (x1, x2, x3) (x1, x2, y3) = decide (x3 < y3)) := by show _ = _; simp [edLess]
      go_enter Tryz.func119, Tryz.ntmps119
      go_wp2
      go_quiet (fail)
      go_wp2
      go_quiet (fail)
      go_wp2
      go_quiet (fail)
      go_wp2
      go_ret
      exact ⟨ret_b (by rw [hv.out]), _, by rw [World.drewN_drewN, World.drewN_drewN]⟩
    · have hv : Hid (edLess (x1, x2, x3) (x1, y2, y3) = decide (x2 < y2)) := by show _ = _; simp [edLess, h2]
      have hq : (x2 != y2) = true := by simpa using h2
      clear h2
      go_enter Tryz.func119, Tryz.ntmps119
      go_wp2
      go_quiet (fail)
      go_wp2
      go_quiet (fail)
      go_wp2
      go_quiet (fail)
      go_wp2
      go_ret
      exact ⟨ret_b (by rw [hv.out]), _, by rw [World.drewN_drewN, World.drewN_drewN]⟩
  · have hv : Hid (edLess (x1, x2, x3) (y1, y2, y3) = decide (x1 < y1)) := by show _ = _; simp [edLess, h1]
    have hq : (x1 != y1) = true := by simpa using h1
    clear h1
    go_enter Tryz.func119, Tryz.ntmps119
    go_wp2
    go_quiet (fail)
    go_wp2
    go_quiet (fail)
    go_wp2
    go_ret
    exact ⟨ret_b (by rw [hv.out]), _, by rw [World.drewN_drewN]⟩

theorem okE_at {st m : Int} {es : List Ed} {k : Nat} {f lb tg : Int} {r : Ed} (hx : es[k]? = some (f, lb, tg)) (hk : 0 < k) (hy : es[k - 1]? = some r) : okEd st m es k = ((inB f 0 (st - 1) && (inB tg 0 (st - 1) && inB lb 0 (m - 1))) && edLess r (f, lb, tg)) := by
  unfold okEd
  rw [hx, hy]
  have : decide (k = 0) = false := decide_eq_false (by omega)
  simp only [this, Bool.false_or, Bool.and_assoc]
theorem okE_zero {st m : Int} {es : List Ed} {f lb tg : Int} (hx : es[0]? = some (f, lb, tg)) : okEd st m es 0 = (inB f 0 (st - 1) && (inB tg 0 (st - 1) && inB lb 0 (m - 1))) := by
  unfold okEd
  rw [hx]
  simp [Bool.and_assoc]
theorem okE_bad {st m : Int} {es : List Ed} {k : Nat} {f lb tg : Int} (hx : es[k]? = some (f, lb, tg)) (h : (inB f 0 (st - 1) && (inB tg 0 (st - 1) && inB lb 0 (m - 1))) = false) : okEd st m es k = false := by
  unfold okEd
  rw [hx]
  simp only [Bool.and_assoc] at h ⊢
  rw [← Bool.and_assoc, ← Bool.and_assoc, Bool.and_assoc (inB f 0 (st - 1)), h]
  rfl
/-- The reference's test of a system. -/
abbrev ltsV := ltsB labS sLess
theorem ltsV_eq (st ini : Int) (ls : List ByteArray) (es : List Ed) : ltsV (st, ini, ls, es) = ((inB st 1 40 && (inB ini 0 (st - 1) && (namesB ls && decide (es.length ≤ 300)))) && allK (okEd st ls.length es) es.length) := by
  show ltsB labS sLess (st, ini, ls, es) = _
  unfold ltsB namesB
  simp only
  cases inB st 1 40 <;> cases inB ini 0 (st - 1) <;> cases inB (ls.length : Int) 1 12 <;> cases decide (es.length ≤ 300) <;> cases allK (okLab labS sLess ls) ls.length <;> simp

end Go.Proofs.YtcdhgabcajehnaaGreatDoor

namespace Go.Proofs.YtcdhgabcajehnaaGreatDoor
open Go.ChangeShapes Go.WideShapes Go.ChangeAt Go.RowKit Go.Sort
set_option linter.unusedVariables false

theorem mem_le_sum : ∀ {l : List Nat} {x : Nat}, x ∈ l → x ≤ l.sum
  | y :: l, x, h => by
    rw [List.sum_cons]
    rcases List.mem_cons.1 h with rfl | h
    · omega
    · have := mem_le_sum h
      omega

end Go.Proofs.YtcdhgabcajehnaaGreatDoor

namespace Go.Proofs.YtcdhgabcajehnaaGreatDoor
open Go.ChangeShapes Go.WideShapes Go.ChangeAt Go.RowKit Go.Sort
set_option linter.unusedVariables false

theorem flat_ev : Flat ev 3 := ⟨fun _ => rfl, fun x u h => by simp [ev] at h; rcases h with rfl | rfl | rfl <;> rfl⟩
theorem elem_edge : Elem Tryz.prog 25 70 3 24 := Elem.of Tryz.underlying25 info_implEdge rfl (by decide) (by decide)
end Go.Proofs.YtcdhgabcajehnaaGreatDoor

namespace Go.Proofs.YtcdhgabcajehnaaGreatDoor
open Go.ChangeShapes Go.WideShapes Go.ChangeAt Go.RowKit
open Go.Maps (Keyed keyOf_int_mk)
set_option linter.unusedVariables false
set_option linter.unusedSimpArgs false

/-- Block b is a map of n entries that answers as f. -/
def MapN (w : World) (b n : Nat) (f : Int → Option Int) : Prop :=
  ∃ D : DataW Unit, w.ownsMap Tryz.prog 2 (plainElem Tryz.prog 2) b n D ∧ Maps.size D = n ∧ ∀ k : Int, (Lit.int .i64 k).wf = true → Maps.has D (.int .i64 k) = (f k).isSome ∧ ∀ c, f k = some c → D.atKey (.int .i64 k) (.lit (.int .i64 0)) = .lit (.int .i64 c)

theorem keyedN : Keyed Tryz.prog 2 := Go.Maps.int_keyed Tryz.underlying2
theorem zeroN (w : World) : (zeroValue 2).run Tryz.prog w = .ok (.int .i64 0) w := by kernel_rfl
theorem owns_tightN {H : Type} {P : Program} {k : TypeId} {R : Value → Option (DataW H × List MemPlace)} {w : World} {b n : Nat} {D : DataW H} (h : w.ownsMap P k R b n D) : w.ownsMap P k R b (Maps.size D) D := by
  obtain ⟨es, clock, hb, F, hs, rfl⟩ := h
  exact ⟨es, clock, hb, F, by simp [Maps.size, length_sorted], rfl⟩

section
variable {w w' : World} {b n : Nat} {f : Int → Option Int}
theorem MapN.made (w : World) : MapN (w.alloc (.map #[] 0)) w.heap.size 0 (fun _ => none) :=
  ⟨.map [], World.ownsMap_made _ _ _ _, rfl, fun k _ => ⟨rfl, fun c h => by cases h⟩⟩
theorem MapN.lt (h : MapN w b n f) : b < w.heap.size := by obtain ⟨D, h1, _⟩ := h; exact h1.lt
theorem MapN.keep (h : MapN w b n f) (hb : w'.heap[b]? = w.heap[b]?) : MapN w' b n f := by
  obtain ⟨D, ⟨es, clock, h1, r⟩, h2⟩ := h
  exact ⟨D, ⟨es, clock, hb.trans h1, r⟩, h2⟩
set_option maxRecDepth 100000 in
theorem MapN.lookOk (h : MapN w b n f) {k : Int} (hk : (Lit.int .i64 k).wf = true) : ∃ c : Int, (Instr.lookup 152 (.map (some b)) (.int .i64 k) true).run Tryz.prog w = .ok (.tuple #[.int .i64 c, .bool (f k).isSome]) w ∧ ∀ c', f k = some c' → c = c' := by
  obtain ⟨D, h1, -, h2⟩ := h
  obtain ⟨h3, h4⟩ := h2 k hk
  obtain ⟨v, ps, hr, hv⟩ := h1.look_ok keyedN Tryz.underlying152 (zeroN w) (plainElem_int Tryz.underlying2 (by decide)) (keyOf_int_mk Tryz.underlying2 hk)
  obtain ⟨c, rfl, hc, hw⟩ := plainElem_int_inv Tryz.underlying2 hv
  simp only [Prod.mk.injEq] at hc
  rw [h3] at hr
  refine ⟨c, hr, fun c' hc' => ?_⟩
  rw [h4 c' hc'] at hc
  have := hc.1
  injection this with e
  injection e with _ e
  exact e.symm
theorem MapN.len (h : MapN w b n f) (ty : TypeId) : (Builtin.len_ #[152] ty #[.map (some b)]).run Tryz.prog w = .ok (.int .i64 (n : Int)) w := by
  obtain ⟨D, h1, h2, -⟩ := h
  rw [h1.len Tryz.underlying152 ty, h2]
theorem MapN.add (h : MapN w b n f) (hn : n < maxLen) {k c : Int} (hk : (Lit.int .i64 k).wf = true) (hc : (Lit.int .i64 c).wf = true) (hno : f k = none) :
    ∃ w', (Instr.mapUpdate 152 (.map (some b)) (.int .i64 k) (.int .i64 c)).run Tryz.prog w = .ok () w' ∧ MapN w' b (n + 1) (fun i => if i = k then some c else f i) ∧ w.grownBy w' (some b) := by
  obtain ⟨D, h1, hs, h2⟩ := h
  have hm := h1.isMap
  obtain ⟨w', hr, h3, h4⟩ := h1.update keyedN Tryz.underlying152 hn (keyOf_int_mk Tryz.underlying2 hk) (plainElem_int Tryz.underlying2 hc)
  have hnh : Maps.has D (.int .i64 k) = false := by rw [(h2 k hk).1, hno]; rfl
  have hsz : Maps.size (D.put (.int .i64 k) (.lit (.int .i64 c))) = n + 1 := by
    rw [Go.Maps.size_put (h1.tidy keyedN), hnh, hs]
    rfl
  refine ⟨w', hr, ⟨_, hsz ▸ owns_tightN h3, hsz, fun i hi => ?_⟩, h4⟩
  by_cases e : i = k
  · subst e
    simp only [if_true]
    refine ⟨Go.Maps.has_true_of_atKey fun z => Go.Maps.atKey_put_same hm (by trivial) _ z, fun c' hc' => ?_⟩
    cases hc'
    exact Go.Maps.atKey_put_same hm (by trivial) _ _
  · simp only [if_neg e]
    have hne : (Lit.int .i64 i) ≠ (Lit.int .i64 k) := fun h => e (by injection h)
    obtain ⟨h5, h6⟩ := h2 i hi
    refine ⟨?_, fun c' hc' => by rw [Go.Maps.atKey_put_other hne]; exact h6 c' hc'⟩
    rw [← h5]
    exact Go.Maps.has_put_other hne _
end

theorem nrm_len {l : List Nat} : ∀ {k : Nat}, k ≤ l.length → (nrmE l k).1.length = k
  | 0, _ => rfl
  | k + 1, h => by
    have hx : l[k]? = some (l[k]'(by omega)) := List.getElem?_eq_getElem _
    conv => lhs; unfold nrmE
    rw [hx]
    dsimp only
    rw [List.length_append, nrm_len (by omega)]
    rfl
theorem nrm_succ {l : List Nat} {k x : Nat} (hx : l[k]? = some x) : nrmE l (k + 1) = ((nrmE l k).1 ++ [(plcE (nrmE l k).2 x : Int)], if x ∈ (nrmE l k).2 then (nrmE l k).2 else (nrmE l k).2 ++ [x]) := by
  conv => lhs; unfold nrmE
  rw [hx]
theorem nrm_pre {l : List Nat} {j k : Nat} (h : j ≤ k) (hk : k ≤ l.length) : (nrmE l j).1 <+: (nrmE l k).1 := by
  induction k with
  | zero =>
    obtain rfl : j = 0 := by omega
    exact List.prefix_refl _
  | succ k ih =>
    rcases Nat.lt_or_ge k j with h1 | h1
    · obtain rfl : j = k + 1 := by omega
      exact List.prefix_refl _
    · have hx : l[k]? = some (l[k]'(by omega)) := List.getElem?_eq_getElem _
      rw [nrm_succ hx]
      exact (ih h1 (by omega)).trans (List.prefix_append _ _)
theorem nrm_blk {l : List Nat} {k : Nat} : (nrmE l k).2.length ≤ k := by
  induction k with
  | zero => exact Nat.le_refl _
  | succ k ih =>
    cases hl : l[k]? with
    | none => unfold nrmE; rw [hl]; dsimp only; omega
    | some y =>
      rw [nrm_succ hl]
      dsimp only
      split
      · omega
      · rw [List.length_append]; simp; omega
theorem plc_old {l : List Nat} {m j : Nat} (hj : j ∈ l) : plcE (l ++ [m]) j = plcE l j := by
  unfold plcE
  rw [List.findIdx?_append]
  cases hf : l.findIdx? fun x => decide (x = j) with
  | some i => simp
  | none =>
    rw [List.findIdx?_eq_none_iff] at hf
    have := hf j hj
    simp at this
theorem plc_new {l : List Nat} {k : Nat} (hl : ¬ k ∈ l) : plcE (l ++ [k]) k = l.length := by
  unfold plcE
  rw [List.findIdx?_append, List.findIdx?_eq_none_iff.2 (fun x hx => decide_eq_false fun e : x = k => hl (by rw [← e]; exact hx))]
  simp
theorem plc_out {l : List Nat} {k : Nat} (hl : ¬ k ∈ l) : plcE l k = l.length := by
  unfold plcE
  rw [List.findIdx?_eq_none_iff.2 (fun x hx => decide_eq_false fun e : x = k => hl (by rw [← e]; exact hx))]
  rfl
/-- What the map answers. -/
def fMN (l : List Nat) (i : Int) : Option Int := if 0 ≤ i ∧ i.toNat ∈ l then some (plcE l i.toNat : Int) else none
theorem fMN_add {l : List Nat} {x : Nat} (hx : ¬ x ∈ l) : (fun i => if i = (x : Int) then some (l.length : Int) else fMN l i) = fMN (l ++ [x]) := by
  funext i
  unfold fMN
  by_cases e : i = (x : Int)
  · subst e
    rw [if_pos rfl, if_pos ⟨by omega, by simp⟩, Int.toNat_natCast, plc_new hx]
  · rw [if_neg e]
    by_cases h : 0 ≤ i ∧ i.toNat ∈ l
    · rw [if_pos h, if_pos ⟨h.1, List.mem_append.2 (.inl h.2)⟩, plc_old h.2]
    · rw [if_neg h, if_neg]
      rintro ⟨h1, h2⟩
      rcases List.mem_append.1 h2 with h2 | h2
      · exact h ⟨h1, h2⟩
      · have := List.mem_singleton.1 h2
        omega

/-- Where the normal form stands. -/
structure NrmS (w wr : World) (bm bo n : Nat) (l : List Nat) (k : Nat) : Prop where
  map : MapN wr bm (nrmE l k).2.length (fMN (nrmE l k).2)
  out : SlI wr bo (bo + 1) (some ⟨bo, 0, none⟩) n (intK n k fun v => ((nrmE l n).1[v]?).getD 0)
  bel : Below w.heap.size w wr

set_option maxRecDepth 100000 in
set_option maxHeartbeats 3200000 in
theorem normal_calls (A : Option Addr) (n c : Nat) (l : List Nat) (w : World) (lo hi : Nat) (h : SlI w lo hi A n (l.map Int.ofNat)) (hn : n ≤ 1048576) (hl : ∀ x ∈ l, x ≤ 1048576) :
    Calls Tryz.prog 108 #[.slice A n c] w fun e w' => ∃ B, e = .returned (.slice (some ⟨B, 0, none⟩) n n) ∧ SlI w' w.heap.size w'.heap.size (some ⟨B, 0, none⟩) n (nrmE l n).1 ∧ Below w.heap.size w w' := by
  have hlen : l.length = n := by have := h.len; rwa [List.length_map] at this
  have hmm := @run_makeMap Tryz.prog
  have hmk := run_make_int n hn
  have z1 : (w.alloc (.map #[] 0)).heap.size = w.heap.size + 1 := World.size_alloc _ _
  have hA : Below (w.alloc (.map #[] 0)).heap.size (w.alloc (.map #[] 0)) ((w.alloc (.map #[] 0)).alloc (.cells (madeCells #[.int .i64 0] n) 2)) := (Below.refl _ _).alloc (Nat.le_refl _) _
  have hs0 : SlI ((w.alloc (.map #[] 0)).alloc (.cells (madeCells #[.int .i64 0] n) 2)) (w.heap.size + 1) (w.heap.size + 1 + 1) (some ⟨w.heap.size + 1, 0, none⟩) n (intK n 0 fun v => ((nrmE l n).1[v]?).getD 0) := by
    have := SlI.made (w.alloc (.map #[] 0)) n (fun v => ((nrmE l n).1[v]?).getD 0)
    rw [z1] at this
    exact this
  have hf0 : (fun _ : Int => (none : Option Int)) = fMN (nrmE l 0).2 := by
    funext i
    unfold fMN
    rw [if_neg]
    rintro ⟨-, h⟩
    cases h
  have hm0 := MapN.made w
  rw [hf0] at hm0
  have hst : Hid (NrmS w ((w.alloc (.map #[] 0)).alloc (.cells (madeCells #[.int .i64 0] n) 2)) w.heap.size (w.heap.size + 1) n l 0) :=
    ⟨hm0.keep (Below.heap_alloc _ _ _ (by omega)), hs0, ((Below.refl _ _).alloc (Nat.le_refl _) _).alloc (by omega) _⟩
  replace h := hide h
  replace hlen := hide hlen
  replace hl := hide hl
  clear hA hs0 hf0 hm0
  go_enter Tryz.func108, Tryz.ntmps108
  go_upto_region 2 with fail
  go_upto_region 3 with fail
  clear hmk hmm z1
  generalize ((w.alloc (.map #[] 0)).alloc (.cells (madeCells #[.int .i64 0] n) 2)) = W0 at *
  go_upto_region 4 with fail
  go_loopg [15] n (fun J i wr => ∃ k : Nat, k ≤ n ∧ i = .int .i64 (k : Int) ∧ Hid (NrmS w wr w.heap.size (w.heap.size + 1) n l k) ∧ Hid (n - k ≤ J))
  case atStart => exact ⟨0, Nat.zero_le _, rfl, hst, by show _ ≤ _; omega⟩
  case round =>
    clear hst
    obtain ⟨k, hk, rfl, hs, hJ⟩ := hrel
    by_cases hlt : k < n
    · obtain ⟨J2, rfl⟩ : ∃ J2, gk = J2 + 1 := ⟨gk - 1, by have := hJ.out; omega⟩
      have hJ2 : Hid (n - (k + 1) ≤ J2) := by have := hJ.out; show _ ≤ _; omega
      obtain ⟨b, off, u, rfl, -, -, g3, hx, p0, -⟩ := SlI.get (h.out.below hs.out.bel (.inr (Nat.le_refl _))) hlt
      rw [List.getElem?_map] at hx
      obtain ⟨x, hx', rfl⟩ := Option.map_eq_some_iff.1 hx
      clear hx
      have hx := hx'
      clear hx'
      replace p0 : wr.cell? ⟨b, off + k, none⟩ = some (.int .i64 (x : Int)) := p0
      have hxl := hl.out x (List.mem_of_getElem? hx)
      have hsu := nrm_succ hx
      have hbl := nrm_blk (l := l) (k := k)
      have hpk : (((nrmE l n).1[k]?).getD 0) = (plcE (nrmE l k).2 x : Int) := by
        have hp := nrm_pre (l := l) (show k + 1 ≤ n by omega) (by rw [hlen.out]; exact Nat.le_refl _)
        have h1 : (nrmE l (k + 1)).1[k]? = some (plcE (nrmE l k).2 x : Int) := by
          rw [hsu]
          dsimp only
          rw [List.getElem?_append_right (by rw [nrm_len (by rw [hlen.out]; omega)]; exact Nat.le_refl _), nrm_len (by rw [hlen.out]; omega), Nat.sub_self]
          rfl
        obtain ⟨t, ht⟩ := hp
        rw [← ht, List.getElem?_append_left (by rw [nrm_len (by rw [hlen.out]; omega)]; omega), h1]
        rfl
      have hstep := intK_step (p := fun v => ((nrmE l n).1[v]?).getD 0) hlt
      rw [hpk] at hstep
      have hwx : (Lit.int .i64 (x : Int)).wf = true := WalkArith.wf_i64 (by omega)
      obtain ⟨lc, hlk, hlv⟩ := hs.out.map.lookOk hwx
      have hI0 : (0 : Int) ≤ (k : Int) := by omega
      have hI1 : (k : Int) < (n : Int) := by omega
      by_cases hin : x ∈ (nrmE l k).2
      · have hf : fMN (nrmE l k).2 (x : Int) = some (plcE (nrmE l k).2 x : Int) := by unfold fMN; rw [if_pos ⟨by omega, by rw [Int.toNat_natCast]; exact hin⟩, Int.toNat_natCast]
        have hc := hlv _ hf
        subst hc
        rw [hf] at hlk
        replace hlk : (Instr.lookup 152 (.map (some w.heap.size)) (.int .i64 (x : Int)) true).run Tryz.prog wr = .ok (.tuple #[.int .i64 (plcE (nrmE l k).2 x : Int), .bool true]) wr := hlk
        obtain ⟨b', off', y, e9, -, -, g4, -, q0, q1⟩ := SlI.get hs.out.out hlt
        injection e9 with e9
        injection e9 with e9 e8
        subst e9 e8
        rw [Nat.zero_add] at q0 q1
        have hput := SlI.put' hs.out.out hlt (plcE (nrmE l k).2 x : Int)
        rw [hstep, Nat.zero_add] at hput
        rw [if_pos hin] at hsu
        have h2 : (nrmE l (k + 1)).2 = (nrmE l k).2 := by rw [hsu]
        have hsn : Hid (NrmS w (wr.setCell ⟨w.heap.size + 1, k, none⟩ (.int .i64 (plcE (nrmE l k).2 x : Int))) w.heap.size (w.heap.size + 1) n l (k + 1)) := by
          refine ⟨?_, hput, hs.out.bel.setCell (by show w.heap.size ≤ w.heap.size + 1; omega) _⟩
          rw [h2]
          exact hs.out.map.keep (Below.heap_setCell _ _ _ _ (by show w.heap.size ≠ w.heap.size + 1; omega))
        generalize plcE (nrmE l k).2 x = pv at *
        clear hs hx hsu hbl hpk hstep hlv hin hf hput h2 hwx
        go_wp2_with fail
        go_roundg J2
        case measure => omega
        case rel => exact ⟨k + 1, by omega, by go_num, hsn, hJ2⟩
      · have hf : fMN (nrmE l k).2 (x : Int) = none := by unfold fMN; rw [if_neg (fun g => hin (by have := g.2; rwa [Int.toNat_natCast] at this))]
        rw [hf] at hlk
        replace hlk : (Instr.lookup 152 (.map (some w.heap.size)) (.int .i64 (x : Int)) true).run Tryz.prog wr = .ok (.tuple #[.int .i64 lc, .bool false]) wr := hlk
        have hml := fun ty => hs.out.map.len ty
        rw [plc_out hin] at hstep hsu
        obtain ⟨w2, hu, hm2, hg2⟩ := hs.out.map.add (by unfold maxLen; omega) (c := ((nrmE l k).2.length : Int)) hwx (WalkArith.wf_i64 (by omega)) hf
        rw [fMN_add hin] at hm2
        rw [if_neg hin] at hsu
        have h2 : (nrmE l (k + 1)).2 = (nrmE l k).2 ++ [x] := by rw [hsu]
        have hs2 : SlI w2 (w.heap.size + 1) (w.heap.size + 1 + 1) (some ⟨w.heap.size + 1, 0, none⟩) n (intK n k fun v => ((nrmE l n).1[v]?).getD 0) := Sl.keep hs.out.out hg2.size fun b h1 h2 h3 => hg2.block b h3 (fun e => by have := Option.some.inj e; omega)
        obtain ⟨b', off', y, e9, -, -, g4, -, q0, q1⟩ := SlI.get hs2 hlt
        injection e9 with e9
        injection e9 with e9 e8
        subst e9 e8
        rw [Nat.zero_add] at q0 q1
        have hput := SlI.put' hs2 hlt ((nrmE l k).2.length : Int)
        rw [hstep, Nat.zero_add] at hput
        have hsn : Hid (NrmS w (w2.setCell ⟨w.heap.size + 1, k, none⟩ (.int .i64 ((nrmE l k).2.length : Int))) w.heap.size (w.heap.size + 1) n l (k + 1)) := by
          refine ⟨?_, hput, ?_⟩
          · rw [h2, List.length_append]
            exact hm2.keep (Below.heap_setCell _ _ _ _ (by show w.heap.size ≠ w.heap.size + 1; omega))
          · have hb2 : Below w.heap.size w w2 := ⟨hg2.os.trans hs.out.bel.os, hg2.tape.trans hs.out.bel.tape, hg2.output.trans hs.out.bel.output, Nat.le_trans hs.out.bel.size hg2.size, fun b hb => (hg2.block b (Nat.lt_of_lt_of_le hb hs.out.bel.size) (fun e => by have := Option.some.inj e; omega)).trans (hs.out.bel.block b hb)⟩
            exact hb2.setCell (by show w.heap.size ≤ w.heap.size + 1; omega) _
        generalize (nrmE l k).2.length = pv at *
        clear hs hx hsu hbl hpk hstep hlv hin hf hput h2 hwx hm2 hs2 hg2
        go_wp2_with fail
        go_roundg J2
        case measure => omega
        case rel => exact ⟨k + 1, by omega, by go_num, hsn, hJ2⟩
    · have hkn : k = n := by omega
      subst hkn
      have hall : (List.range k).map (fun v => ((nrmE l k).1[v]?).getD 0) = (nrmE l k).1 := by
        apply List.ext_getElem?
        intro i
        have hl := nrm_len (l := l) (k := k) (by rw [hlen.out]; exact Nat.le_refl _)
        by_cases hi : i < k
        · rw [List.getElem?_map, List.getElem?_range hi, Option.map_some, List.getElem?_eq_getElem (by omega)]
          rfl
        · rw [List.getElem?_eq_none (by simp; omega), List.getElem?_eq_none (by omega)]
      have hres := hs.out.out
      rw [intK_all, hall] at hres
      have hbw := hs.out.bel
      have hres2 := hide fun (hz : w.heap.size + 1 + 1 ≤ wr.heap.size) => hres.more (show w.heap.size ≤ w.heap.size + 1 by omega) hz
      have hz : Hid (k = 0 ∨ w.heap.size + 1 + 1 ≤ wr.heap.size) := by
        show _ ∨ _
        by_cases h0 : 0 < k
        · obtain ⟨b', off', y, e9, -, -, g4, -⟩ := SlI.get hs.out.out h0
          injection e9 with e9
          injection e9 with e9 e8
          subst e9
          exact .inr g4
        · exact .inl (by omega)
      replace hres := hide hres
      replace hbw := hide hbw
      clear hs hall
      go_wp2_with fail
      go_ret
      refine ⟨w.heap.size + 1, rfl, ?_, hbw.out⟩
      rcases hz.out with h0 | h1
      · have := hres.out
        exact ⟨this.1, fun hp => absurd hp (by omega)⟩
      · exact hres2.out h1

end Go.Proofs.YtcdhgabcajehnaaGreatDoor

namespace Go.Proofs.YtcdhgabcajehnaaGreatDoor
open Go.ChangeShapes Go.WideShapes Go.ChangeAt Go.RowKit
set_option linter.unusedVariables false
theorem plc_idx (L : List Nat) (n : Nat) : (L.map Int.ofNat).idxOf (n : Int) = plcE L n := by
  induction L with
  | nil => rfl
  | cons a L ih =>
    unfold plcE at ih ⊢
    rw [List.map_cons, List.idxOf_cons, List.findIdx?_cons]
    by_cases e : a = n
    · subst e; simp
    · rw [beq_eq_false_iff_ne.2 (show Int.ofNat a ≠ (n : Int) from fun h => e (Int.ofNat.inj h)), decide_eq_false e]
      simp only [cond_false, Bool.false_eq_true, if_false]
      rw [ih]
      cases h : List.findIdx? (fun x => decide (x = n)) L with
      | none => simp
      | some v => simp
theorem nrm_firsts (l : List Nat) : ∀ k, k ≤ l.length → (nrmE l k).2.map Int.ofNat = firsts [] ((l.take k).map Int.ofNat) ∧ (nrmE l k).1 = ((l.take k).map Int.ofNat).map fun x => ((firsts [] ((l.take k).map Int.ofNat)).idxOf x : Int)
  | 0, _ => ⟨rfl, rfl⟩
  | k + 1, hk => by
    obtain ⟨h1, h2⟩ := nrm_firsts l k (by omega)
    have hx : l[k]? = some (l[k]'(by omega)) := List.getElem?_eq_getElem _
    generalize (l[k]'(by omega)) = x at hx
    rw [nrm_succ hx, List.take_add_one, hx]
    have e : (l.take k ++ (some x).toList).map Int.ofNat = (l.take k).map Int.ofNat ++ [(x : Int)] := by simp
    rw [e]
    have hf : ∀ F m : List Int, firsts F (m ++ [(x : Int)]) = firsts (firsts F m) [(x : Int)] := fun F m => by
      induction m generalizing F with
      | nil => rfl
      | cons y m ih => exact ih _
    have hone : ∀ F : List Int, firsts F [(x : Int)] = if (x : Int) ∈ F then F else F ++ [(x : Int)] := fun F => rfl
    have hmem : x ∈ (nrmE l k).2 ↔ (x : Int) ∈ firsts [] ((l.take k).map Int.ofNat) := by
      rw [← h1, List.mem_map]
      constructor
      · intro h; exact ⟨x, h, rfl⟩
      · rintro ⟨y, hy, e⟩
        have : y = x := Int.ofNat.inj e
        rw [← this]; exact hy
    have hidx := plc_idx (nrmE l k).2 x
    rw [h1] at hidx
    have hold : ∀ z, z ∈ (l.take k).map Int.ofNat → (firsts [] ((l.take k).map Int.ofNat ++ [(x : Int)])).idxOf z = (firsts [] ((l.take k).map Int.ofNat)).idxOf z := fun z hz => by
      have hz2 : z ∈ firsts [] ((l.take k).map Int.ofNat) := firsts_mem.2 (.inr hz)
      rw [hf, hone]
      split
      · rfl
      · rw [List.idxOf_append, if_pos hz2]
    have hnew : (firsts [] ((l.take k).map Int.ofNat ++ [(x : Int)])).idxOf (x : Int) = plcE (nrmE l k).2 x := by
      rw [hf, hone, ← hidx]
      split
      · rfl
      · rename_i hn
        rw [List.idxOf_append, if_neg hn, List.idxOf_eq_length hn]
        simp
    refine ⟨?_, ?_⟩
    · show (if x ∈ (nrmE l k).2 then (nrmE l k).2 else (nrmE l k).2 ++ [x]).map Int.ofNat = _
      rw [hf, hone]
      by_cases h : x ∈ (nrmE l k).2
      · rw [if_pos h, if_pos (hmem.1 h), h1]
      · rw [if_neg h, if_neg (fun g => h (hmem.2 g)), List.map_append, h1]; rfl
    · show (nrmE l k).1 ++ [(plcE (nrmE l k).2 x : Int)] = _
      rw [List.map_append, h2]
      congr 1
      · exact List.map_congr_left fun z hz => by rw [hold z hz]
      · simp only [List.map_cons, List.map_nil]
        rw [hnew]
theorem nrm_normF (l : List Nat) : (nrmE l l.length).1 = normF (l.map Int.ofNat) := by
  have := (nrm_firsts l l.length (Nat.le_refl _)).2
  rw [List.take_length] at this
  exact this
theorem ofNat_list {l : List Int} (h : ∀ x, x ∈ l → 0 ≤ x) : ∃ m : List Nat, l = m.map Int.ofNat := by
  refine ⟨l.map Int.toNat, ?_⟩
  rw [List.map_map]
  refine (List.map_id l).symm.trans (List.map_congr_left fun x hx => ?_)
  have := h x hx
  show x = ((x.toNat : Nat) : Int)
  omega
/-- impl.normal on numbers that are not negative. -/
theorem normalF_calls (A : Option Addr) (n c : Nat) (l : List Int) (w : World) (lo hi : Nat) (h : SlI w lo hi A n l) (hn : n ≤ 1048576) (hl : ∀ x, x ∈ l → 0 ≤ x ∧ x ≤ 1048576) :
    Calls Tryz.prog 108 #[.slice A n c] w fun e w' => ∃ B, e = .returned (.slice (some ⟨B, 0, none⟩) n n) ∧ SlI w' w.heap.size w'.heap.size (some ⟨B, 0, none⟩) n (normF l) ∧ Below w.heap.size w w' := by
  obtain ⟨m, rfl⟩ := ofNat_list fun x hx => (hl x hx).1
  have hlen := h.len
  rw [List.length_map] at hlen
  have hq := normal_calls A n c m w lo hi h hn fun x hx => by have : (x : Int) ≤ 1048576 := (hl (Int.ofNat x) (List.mem_map_of_mem hx)).2; omega
  rw [← hlen, nrm_normF, hlen] at hq
  exact hq
end Go.Proofs.YtcdhgabcajehnaaGreatDoor

namespace Go.Proofs.YtcdhgabcajehnaaGreatDoor
open Go.ChangeShapes Go.WideShapes Go.ChangeAt Go.RowKit
set_option linter.unusedVariables false
set_option linter.unusedSimpArgs false

set_option maxRecDepth 100000 in
theorem normalKeys1_calls (Ak : Option Addr) (m d : Nat) (s : List Int) (be : Nat) (Ae : Option Addr) (me de : Nat) (key : List Int) (w : World) (lo hi lo' hi' : Nat) (h : SlI w lo hi Ak m s) (hm : m ≤ 1048576) (ke : w.cell? ⟨be, 0, none⟩ = some (.slice Ae me de)) (g : SlI w lo' hi' Ae me key) (hme : me ≤ 1048576) :
    Calls Tryz.prog 107 #[.slice Ak m d, .pointer (some ⟨be, 0, none⟩)] w (Says (decide (s = key)) w) := by
  have q := hide (equalI_calls Ak Ae m me d de s key w _ _ _ _ h g hm hme)
  clear h g
  go_enter Tryz.func107, Tryz.ntmps107
  go_wp2_with fail
  refine q.out.mono ?_
  rintro e w1 ⟨rfl, hb⟩
  replace hb := hide hb
  go_wp2_with fail
  go_ret
  exact ⟨rfl, hb.out⟩

theorem nkL_at {α : Type} [BEq α] {keys : List α} {k : Nat} {x : α} (h : keys[k]? = some x) : (nkL keys)[k]? = some (keys.idxOf x : Int) := by
  unfold nkL; rw [List.getElem?_map, h]; rfl
/-- The first place of a key, found among those ahead of it. -/
theorem idx_fst {keys : List (List Int)} {k : Nat} {x : List Int} (hx : keys[k]? = some x) {i : Int} (h : fstG (fun s => decide (s = x)) (keys.take k) i) : (if i < 0 then (k : Int) else i) = (keys.idxOf x : Int) := by
  have hk := List.getElem?_eq_some_iff.1 hx
  have key : ∀ (j : Nat), j ≤ k → ((keys.take j).any fun s => decide (s = x)) = false → keys[j]? = some x → keys.idxOf x = j := by
    intro j hj ha hjx
    have hn : x ∉ keys.take j := fun hm => by
      have := List.any_eq_false.1 ha x hm
      simp at this
    have hjl := (List.getElem?_eq_some_iff.1 hjx).1
    have e : keys = keys.take j ++ keys.drop j := (List.take_append_drop j keys).symm
    have hd : keys.drop j = x :: keys.drop (j + 1) := by
      rw [List.drop_eq_getElem_cons hjl, (List.getElem?_eq_some_iff.1 hjx).2]
    rw [e, List.idxOf_append, if_neg hn, hd, List.idxOf_cons]
    simp
    omega
  rcases h with ⟨rfl, ha⟩ | ⟨j, rfl, hj, ha, y, hy, hg⟩
  · rw [if_pos (by omega), key k (Nat.le_refl _) ha hx]
  · rw [List.length_take] at hj
    rw [if_neg (by omega)]
    have hy2 : keys[j]? = some y := by rw [← hy, List.getElem?_take]; simp; omega
    rw [List.take_take, show min j k = j by omega] at ha
    rw [key j (by omega) ha (by rw [hy2, of_decide_eq_true hg])]

set_option maxRecDepth 100000 in
set_option maxHeartbeats 6400000 in
theorem normalKeys_calls (A : Option Addr) (n c : Nat) (R : List (Hd × List Int)) (w : World) (lo hi : Nat) (h : RowsI 1048576 w lo hi A n R) (hn : n ≤ 1000) (hc : n ≤ c) :
    Calls Tryz.prog 68 #[.slice A n c] w fun e w' => ∃ B, e = .returned (.slice (some ⟨B, 0, none⟩) n n) ∧ SlI w' w.heap.size w'.heap.size (some ⟨B, 0, none⟩) n (nkF (R.map (·.2))) ∧ Below w.heap.size w w' := by
  have hEi := hide elem_int
  have hER := hide elem_rowI
  have hlen : R.length = n := by have := h.1.len; rwa [List.length_map] at this
  have hkl : (R.map (·.2)).length = n := by rw [List.length_map]; exact hlen
  have hnl : (nkL (R.map (·.2))).length = n := by simp [nkL, hlen]
  replace h := hide h
  replace hnl := hide hnl
  replace hkl := hide hkl
  replace hlen := hide hlen
  go_enter Tryz.func68, Tryz.ntmps68
  go_wp2_with fail
  go_loopw [3, 9] (fun v3 v9 wr => ∃ (k : Nat) (A3 : Option Addr) (c3 : Nat), k ≤ n ∧ v9 = .int .i64 (k : Nat) ∧ v3 = .slice A3 k c3 ∧ Hid (Own 1 iv wr w.heap.size 2 A3 k c3 ((nkL (R.map (·.2))).take k)) ∧ Hid (Below w.heap.size w wr)) (fun _ v _ => n - (intOf v).toNat)
  case atStart => exact ⟨0, none, 0, Nat.zero_le _, rfl, rfl, Own.nil_ _ _ _, Below.refl _ _⟩
  case round =>
    obtain ⟨k, A3, c3, hk, rfl, rfl, hO, hb⟩ := hrel
    by_cases hlt : k < n
    · have k0 : (0 : Int) ≤ (k : Int) := by omega
      have k1 : (k : Int) < (n : Int) := by omega
      have hxr : R[k]? = some (R[k]'(by have := hlen.out; omega)) := List.getElem?_eq_getElem _
      have hmem : (R[k]'(by have := hlen.out; omega)) ∈ R := List.getElem_mem _
      obtain ⟨hs0, hm0⟩ := h.out.2 _ hmem
      obtain ⟨b, off, hA, g1, g2, g3, hc0⟩ := h.out.1.at_ (show 0 < n by omega)
      have c0 := (hc0 k _ (by rw [List.getElem?_map, hxr]; rfl) 0 _ rfl).1
      rw [Nat.mul_one, Nat.add_zero] at c0
      generalize (R[k]'(by have := hlen.out; omega)) = r at *
      obtain ⟨⟨Ah, m, ch⟩, s⟩ := r
      (try dsimp only at hs0 hm0 c0)
      replace c0 := (hb.out.cell (p := ⟨b, off + k, none⟩) g3).trans c0
      subst hA
      have hx2 : (R.map (·.2))[k]? = some s := by rw [List.getElem?_map, hxr]; rfl
      -- the box of the key
      have hbE := hb.out.alloc hb.out.size (.cells #[.slice Ah m ch] 31)
      have hbE1 := (Below.refl wr.heap.size wr).alloc (Nat.le_refl _) (.cells #[.slice Ah m ch] 31)
      have kE := heap_alloc_new wr (.cells #[.slice Ah m ch] 31)
      have hOE := hO.out.alloc (.cells #[.slice Ah m ch] 31)
      obtain ⟨wE, hwE⟩ : ∃ wE, wE = wr.alloc (.cells #[.slice Ah m ch] 31) := ⟨_, rfl⟩
      rw [← hwE] at hbE hbE1 kE hOE
      obtain ⟨be, hbe⟩ : ∃ be, be = wr.heap.size := ⟨_, rfl⟩
      rw [← hbe] at kE
      have hbel : be < wE.heap.size := (Array.getElem?_eq_some_iff.1 kE).1
      have hslice : ∀ W : World, (Instr.slice 55 (.slice (some ⟨b, off, none⟩) n c) none (some (.int .i64 (k : Int))) none).run Tryz.prog W = .ok (.slice (some ⟨b, off, none⟩) k c) W := fun W => run_head hER.out _ n c k (by omega) W
      have hRk : RowsI 1048576 wE lo hi (some ⟨b, off, none⟩) k (R.take k) := by
        have hR := h.out
        refine ⟨?_, fun r hr => ?_⟩
        · have h1 := hR.1.below hbE (.inr (Nat.le_refl _))
          refine ⟨by rw [List.length_map, List.length_take, hlen.out]; omega, fun hk0 => ?_⟩
          obtain ⟨b', off', e', g1', g2', g3', hcc⟩ := h1.at_ (show 0 < n by omega)
          refine ⟨b', off', e', g1', g2', g3', fun i x hx j u hu => hcc i x ?_ j u hu⟩
          rw [List.getElem?_map] at hx ⊢
          rw [List.getElem?_take] at hx
          split at hx
          · exact hx
          · simp at hx
        · obtain ⟨h1, h2⟩ := hR.2 r (List.mem_of_mem_take hr)
          exact ⟨h1.below hbE (.inr (Nat.le_refl _)), h2⟩
      have hsE := hs0.below hbE (.inr (Nat.le_refl _))
      have hkeW := hide (fun (W : World) (hW : Below wE.heap.size wE W) => (cell_of_row W be 0 _ _ (0, 0) ((hW.block be hbel).trans kE)).trans rfl)
      have qI := indexFuncR_calls 107 #[.pointer (some ⟨be, 0, none⟩)] (fun l => decide (l = s)) (some ⟨b, off, none⟩) k c (R.take k) wE lo hi hRk (by omega)
        (fun v W => by kernel_rfl)
        (fun A2 m2 d2 l2 W hmemW hW hsW hm2 => normalKeys1_calls A2 m2 d2 l2 be Ah m ch s W _ _ _ _ hsW hm2 (hkeW.out W hW) (hsE.below hW (.inr (Nat.le_refl _))) hm0)
      replace qI := hide qI
      replace kE := hide kE
      replace hbE := hide hbE
      replace hbE1 := hide hbE1
      replace hOE := hide hOE
      replace hx2 := hide hx2
      clear hs0 hxr hmem hc0 hRk hsE hkeW
      go_upto_region 5 with fail
      rw [← hwE, ← hbe]
      replace hwE := hide hwE
      replace hbe := hide hbe
      clear c0
      go_wp2_with fail
      refine qI.out.mono ?_
      rintro e w5 ⟨i, rfl, hf, hb5⟩
      have hidx : (if i < 0 then (k : Int) else i) = ((R.map (·.2)).idxOf s : Int) := idx_fst hx2.out (by rw [← List.map_take]; exact hf)
      have hO5 := hide (hOE.out.keep (w' := w5) fun g e => hb5.block g (hOE.out.lt g e).2)
      have hB5 := hide (hbE.out.trans (hb5.mono hbE.out.size))
      have hz5 := hB5.out.size
      have hnx := hide (nkL_at hx2.out)
      obtain ⟨iv2, hiv2⟩ : ∃ iv2 : Int, iv2 = ((R.map (·.2)).idxOf s : Int) := ⟨_, rfl⟩
      rw [← hiv2] at hnx hidx
      replace hiv2 := hide hiv2
      have hza : w.heap.size ≤ (w5.alloc (.cells #[.int .i64 iv2] 2)).heap.size := by rw [World.size_alloc]; omega
      have hOa := hide (hO5.out.alloc (.cells #[.int .i64 iv2] 2))
      have hBa := hide (hB5.out.alloc hz5 (.cells #[.int .i64 iv2] 2))
      have hrow := hide (fun q (e : (Value.slice A3 k c3).ownBlock = some q) => (hOa.out.lt q e).1)
      replace hb5 := hide hb5
      replace hf := hide hf
      have htk : Hid ((nkL (R.map (·.2))).take k ++ [iv2] = (nkL (R.map (·.2))).take (k + 1)) := by show _ = _; rw [List.take_add_one, hnx.out]; rfl
      clear qI hO hOE hslice
      by_cases hi0 : i < 0
      · rw [if_pos hi0] at hidx
        subst hidx
        go_wp2_with (first | (at_builtin; (with_reducible refine wpList_app rfl (.tmp 22) (.tmp 24) rfl hEi.out flat_iv rfl hOa.out rfl (Sl.lit1' w5 2 (k : Int) _ rfl 1 _ ?d0) ?d1 hza ?_); rotate_right; intro A6 c6 w6 hown6 hgr6 hb6 hat6))
        case d0 => rfl
        case d1 => omega
        have hB6 := hide (hBa.out.grown hgr6 hBa.out.size (fun q e => hrow.out q e))
        rw [htk.out] at hown6
        replace hown6 := hide hown6
        clear hgr6 hb6 hat6 hOa hBa hrow
        go_wp2_with fail
        go_roundw
        case rel => exact ⟨k + 1, A6, c6, by omega, by go_num, rfl, hown6.out, hB6.out⟩
        case measure => simp [intOf]; omega
      · rw [if_neg hi0] at hidx
        subst hidx
        go_wp2_with (first | (at_builtin; (with_reducible refine wpList_app rfl (.tmp 22) (.tmp 24) rfl hEi.out flat_iv rfl hOa.out rfl (Sl.lit1' w5 2 i _ rfl 1 _ ?d0) ?d1 hza ?_); rotate_right; intro A6 c6 w6 hown6 hgr6 hb6 hat6))
        case d0 => rfl
        case d1 => omega
        have hB6 := hide (hBa.out.grown hgr6 hBa.out.size (fun q e => hrow.out q e))
        rw [htk.out] at hown6
        replace hown6 := hide hown6
        clear hgr6 hb6 hat6 hOa hBa hrow
        go_wp2_with fail
        go_roundw
        case rel => exact ⟨k + 1, A6, c6, by omega, by go_num, rfl, hown6.out, hB6.out⟩
        case measure => simp [intOf]; omega
    · obtain rfl : k = n := by omega
      have k1 : ¬ (k : Int) < (k : Int) := by omega
      have hl : (nkL (R.map (·.2))).take k = nkL (R.map (·.2)) := List.take_of_length_le (by rw [hnl.out]; exact Nat.le_refl _)
      rw [hl] at hO
      have hz := hb.out.size
      have qN := hide (normalF_calls A3 k c3 (nkL (R.map (·.2))) wr _ _ (hO.out.sl flat_iv) (by omega) (fun x hx => by
        unfold nkL at hx
        obtain ⟨y, hy, rfl⟩ := List.mem_map.1 hx
        have := List.idxOf_lt_length_of_mem hy
        rw [hkl.out] at this
        omega))
      clear hO hl
      go_wp2_with fail
      refine qN.out.mono ?_
      rintro e w5 ⟨B, rfl, hB, hb5⟩
      have hB2 := hide (hB.more hz (Nat.le_refl _))
      replace hb5 := hide (hb.out.trans (hb5.mono hz))
      clear qN
      go_wp2_with fail
      go_ret
      exact ⟨B, rfl, hB2.out, hb5.out⟩

end Go.Proofs.YtcdhgabcajehnaaGreatDoor

namespace Go.Proofs.YtcdhgabcajehnaaGreatDoor
open Go.ChangeShapes Go.WideShapes Go.ChangeAt Go.RowKit
set_option linter.unusedVariables false

/-- Rows of the call's own that grow, their handles in block bb. -/
structure BackM (w : World) (bb base : Nat) (R : List (Hd × List Int)) : Prop where
  outer : ∃ cur : Array Value, w.heap[bb]? = some (.cells cur 31 (0, 0)) ∧ cur.size = R.length ∧ ∀ (i : Nat) (r : Hd × List Int), R[i]? = some r → cur[i]? = some (.slice r.1.1 r.1.2.1 r.1.2.2)
  rows : ∀ (i : Nat) (r : Hd × List Int), R[i]? = some r → Own 1 iv w base 2 r.1.1 r.1.2.1 r.1.2.2 r.2
  apart : ∀ (i i' : Nat) (r r' : Hd × List Int), i ≠ i' → R[i]? = some r → R[i']? = some r' → (Value.slice r.1.1 r.1.2.1 r.1.2.2).ownBlock = none ∨ (Value.slice r.1.1 r.1.2.1 r.1.2.2).ownBlock ≠ (Value.slice r'.1.1 r'.1.2.1 r'.1.2.2).ownBlock

section
variable {w w' : World} {bb base : Nat} {R : List (Hd × List Int)}
theorem BackM.keep (h : BackM w bb base R) (hb : w'.heap[bb]? = w.heap[bb]?) (hk : ∀ b, base ≤ b → b < w.heap.size → w'.heap[b]? = w.heap[b]?) : BackM w' bb base R := by
  obtain ⟨cur, h1, h2⟩ := h.outer
  exact ⟨⟨cur, hb.trans h1, h2⟩, fun i r hr => (h.rows i r hr).keep fun g hg => hk g ((h.rows i r hr).lt g hg).1 ((h.rows i r hr).lt g hg).2, h.apart⟩
theorem BackM.lt (h : BackM w bb base R) : bb < w.heap.size := by obtain ⟨cur, h1, _⟩ := h.outer; exact (Array.getElem?_eq_some_iff.1 h1).1
theorem BackM.alloc (h : BackM w bb base R) (o : Obj) : BackM (w.alloc o) bb base R := h.keep (Below.heap_alloc _ _ _ h.lt) fun b _ hb => Below.heap_alloc _ _ _ hb
theorem BackM.cell (h : BackM w bb base R) {i : Nat} {r : Hd × List Int} (hr : R[i]? = some r) : w.cell? ⟨bb, i, none⟩ = some (.slice r.1.1 r.1.2.1 r.1.2.2) ∧ w.frozen? ⟨bb, i, none⟩ = false := by
  obtain ⟨cur, h1, h2, h3⟩ := h.outer
  exact ⟨(cell_of_row w bb i cur _ (0, 0) h1).trans (h3 i r hr), frozen_of_row w bb i cur _ h1⟩
/-- One row grew. -/
theorem BackM.push (h : BackM w bb base R) (hbb : bb < base) (hbase : base ≤ w.heap.size) {i : Nat} {r : Hd × List Int} (hr : R[i]? = some r) {A' : Option Addr} {n' c' : Nat} {s' : List Int} (ho : Own 1 iv w' base 2 A' n' c' s') (hg : w.grownBy w' (Value.slice r.1.1 r.1.2.1 r.1.2.2).ownBlock)
    (hat : (Value.slice A' n' c').ownBlock = (Value.slice r.1.1 r.1.2.1 r.1.2.2).ownBlock ∨ (Value.slice A' n' c').ownBlock = some w.heap.size) :
    BackM (w'.setCell ⟨bb, i, none⟩ (.slice A' n' c')) bb base (R.set i ((A', n', c'), s')) := by
  have hi : i < R.length := (List.getElem?_eq_some_iff.1 hr).1
  obtain ⟨cur, h1, h2, h3⟩ := h.outer
  have hne : ∀ b, b < base → some b ≠ (Value.slice r.1.1 r.1.2.1 r.1.2.2).ownBlock := fun b hb e => by
    have := ((h.rows i r hr).lt b e.symm).1
    omega
  have hkeep : ∀ g, base ≤ g → (w'.setCell ⟨bb, i, none⟩ (.slice A' n' c')).heap[g]? = w'.heap[g]? := fun g hg => Below.heap_setCell _ _ _ _ (by show g ≠ bb; omega)
  have key : ∀ i' r', i ≠ i' → R[i']? = some r' → Own 1 iv w' base 2 r'.1.1 r'.1.2.1 r'.1.2.2 r'.2 := fun i' r' hii hr' => (h.rows i' r' hr').kept hg (h.apart i' i r' r (Ne.symm hii) hr' hr)
  have keyA : ∀ i' r', i ≠ i' → R[i']? = some r' → (Value.slice r'.1.1 r'.1.2.1 r'.1.2.2).ownBlock = none ∨ (Value.slice r'.1.1 r'.1.2.1 r'.1.2.2).ownBlock ≠ (Value.slice A' n' c').ownBlock := fun i' r' hii hr' => by
    rcases hat with e | e
    · rw [e]; exact h.apart i' i r' r (Ne.symm hii) hr' hr
    · rw [e]
      cases e2 : (Value.slice r'.1.1 r'.1.2.1 r'.1.2.2).ownBlock with
      | none => exact .inl rfl
      | some b =>
        right
        intro e3
        injection e3 with e3
        have := ((h.rows i' r' hr').lt b e2).2
        omega
  refine ⟨⟨cur.setIfInBounds i (.slice A' n' c'), heap_setCell_same w' bb i cur _ _ ((hg.block bb h.lt (hne bb hbb)).trans h1), by simp [h2], fun i' r' hr' => ?_⟩, fun i' r' hr' => ?_, fun i1 i2 r1 r2 hii hr1 hr2 => ?_⟩
  · by_cases e : i = i'
    · subst e
      rw [List.getElem?_set_self hi] at hr'
      cases hr'
      simp [Array.getElem?_setIfInBounds]
      omega
    · rw [List.getElem?_set_ne e] at hr'
      rw [Array.getElem?_setIfInBounds_ne e]
      exact h3 i' r' hr'
  · by_cases e : i = i'
    · subst e
      rw [List.getElem?_set_self hi] at hr'
      cases hr'
      exact ho.keep fun g hgg => hkeep g (ho.lt g hgg).1
    · rw [List.getElem?_set_ne e] at hr'
      have hk := key i' r' e hr'
      exact hk.keep fun g hgg => hkeep g (hk.lt g hgg).1
  · by_cases e1 : i = i1
    · subst e1
      rw [List.getElem?_set_self hi] at hr1
      cases hr1
      rw [List.getElem?_set_ne hii] at hr2
      rcases keyA i2 r2 hii hr2 with h4 | h4
      · rw [h4]
        cases e2 : (Value.slice A' n' c').ownBlock with
        | none => exact .inl rfl
        | some b => right; simp
      · exact .inr (Ne.symm h4)
    · rw [List.getElem?_set_ne e1] at hr1
      by_cases e2 : i = i2
      · subst e2
        rw [List.getElem?_set_self hi] at hr2
        cases hr2
        exact keyA i1 r1 e1 hr1
      · rw [List.getElem?_set_ne e2] at hr2
        exact h.apart i1 i2 r1 r2 hii hr1 hr2
/-- What the finished rows read as. -/
theorem BackM.rowsI (h : BackM w bb base R) (hn : ∀ (i : Nat) (r : Hd × List Int), R[i]? = some r → r.2.length ≤ 1048576) : RowsI 1048576 w 0 w.heap.size (some ⟨bb, 0, none⟩) R.length R := by
  obtain ⟨cur, h1, h2, h3⟩ := h.outer
  refine ⟨⟨by rw [List.length_map], fun _ => ⟨bb, 0, rfl, Nat.zero_le _, h.lt, h.lt, fun k x hx j u hu => ?_⟩⟩, fun r hr => ?_⟩
  · rw [List.getElem?_map] at hx
    obtain ⟨r, hr, rfl⟩ := Option.map_eq_some_iff.1 hx
    have hj : j = 0 := by
      have := (List.getElem?_eq_some_iff.1 hu).1
      simp [sv] at this
      exact this
    subst hj
    simp [sv] at hu
    subst hu
    have := h.cell hr
    simpa using this
  · obtain ⟨i, hi⟩ := List.getElem?_of_mem hr
    have ho := h.rows i r hi
    refine ⟨((ho.sl flat_iv).more (Nat.zero_le _) (Nat.le_refl _)), ?_⟩
    have := hn i r hi
    rw [ho.len] at this
    exact this
end


theorem info_rowI9 : (Tryz.prog.info? 31).map (fun i => (i.zero, i.size, i.bytes)) = some (some (.slice none 0 0), 1, 24) := by kernel_rfl
theorem run_make_rows (n : Nat) (hn : n ≤ 1048576) (W : World) : (Instr.makeSlice 55 (.int .i64 (n : Int)) (.int .i64 (n : Int))).run Tryz.prog W = .ok (.slice (some ⟨W.heap.size, 0, none⟩) n n) (W.alloc (.cells (madeCells #[.slice none 0 0] n) 31)) := by
  obtain ⟨i0, hi0, hz0, hz1, hz2⟩ := info_parts info_rowI9
  have h := make_row (P := Tryz.prog) 55 31 i0 _ _ n Tryz.underlying55 hi0 hz0 hz1 (by rw [hz2]; omega) (by omega) W
  rw [Nat.mul_one] at h
  exact h
/-- The rows hold what f says. -/
def RowsAre (R : List (Hd × List Int)) (N : Nat) (f : Nat → List Int) : Prop := R.length = N ∧ ∀ (j : Nat) (r : Hd × List Int), R[j]? = some r → r.2 = f j
theorem RowsAre.set {R : List (Hd × List Int)} {N : Nat} {f g : Nat → List Int} (h : RowsAre R N f) {i : Nat} {x : Hd × List Int} (hi : i < N) (hx : x.2 = g i) (hg : ∀ j, j ≠ i → j < N → g j = f j) : RowsAre (R.set i x) N g := by
  refine ⟨by rw [List.length_set]; exact h.1, fun j r hr => ?_⟩
  by_cases e : i = j
  · subst e
    rw [List.getElem?_set_self (by rw [h.1]; exact hi)] at hr
    cases hr
    exact hx
  · rw [List.getElem?_set_ne e] at hr
    rw [h.2 j r hr]
    have := (List.getElem?_eq_some_iff.1 hr).1
    rw [h.1] at this
    exact (hg j (fun e2 => e e2.symm) this).symm
theorem RowsAre.map {R : List (Hd × List Int)} {N : Nat} {f : Nat → List Int} (h : RowsAre R N f) : R.map (·.2) = (List.range N).map f := by
  apply List.ext_getElem (by simp [h.1])
  intro j h1 h2
  rw [List.getElem_map, List.getElem_map, List.getElem_range]
  have hj : j < R.length := by simpa using h1
  exact h.2 j _ (List.getElem?_eq_getElem hj)
section
variable {w w' : World} {bb base N : Nat} {R : List (Hd × List Int)}
theorem BackM.made (w : World) (n : Nat) : BackM (w.alloc (.cells (madeCells #[.slice none 0 0] n) 31)) w.heap.size (w.heap.size + 1) (List.replicate n ((none, 0, 0), [])) := by
  have hg := heap_alloc_new w (.cells (madeCells #[.slice none 0 0] n) 31)
  have hr : ∀ (i : Nat) (r : Hd × List Int), (List.replicate n (((none, 0, 0), []) : Hd × List Int))[i]? = some r → i < n ∧ r = ((none, 0, 0), []) := fun i r hr => by
    have h1 := (List.getElem?_eq_some_iff.1 hr).1
    rw [List.length_replicate] at h1
    rw [List.getElem?_replicate, if_pos h1] at hr
    exact ⟨h1, (Option.some.inj hr).symm⟩
  refine ⟨⟨_, hg, by simp [madeCells], fun i r h => ?_⟩, fun i r h => ?_, fun i i' r r' _ h _ => ?_⟩
  · obtain ⟨h1, rfl⟩ := hr i r h
    simp [madeCells, h1, Nat.mod_one]
  · obtain ⟨h1, rfl⟩ := hr i r h
    exact Own.nil_ _ _ _
  · obtain ⟨h1, rfl⟩ := hr i r h
    exact .inl rfl
/-- The rows' own blocks stay. -/
theorem BackM.keepR (h : BackM w bb base R) (hb : w'.heap[bb]? = w.heap[bb]?) (hk : ∀ (i : Nat) (r : Hd × List Int), R[i]? = some r → ∀ g, (Value.slice r.1.1 r.1.2.1 r.1.2.2).ownBlock = some g → w'.heap[g]? = w.heap[g]?) : BackM w' bb base R := by
  obtain ⟨cur, h1, h2⟩ := h.outer
  exact ⟨⟨cur, hb.trans h1, h2⟩, fun i r hr => (h.rows i r hr).keep (hk i r hr), h.apart⟩
theorem BackM.below (h : BackM w bb base R) (hb : Below w.heap.size w w') : BackM w' bb base R := h.keep (hb.block bb h.lt) fun b _ h2 => hb.block b h2
end
theorem grown_alloc (w : World) (o : Obj) (row : Option Nat) : w.grownBy (w.alloc o) row := ⟨rfl, rfl, rfl, by rw [World.size_alloc]; omega, fun b hb _ => Below.heap_alloc _ _ _ hb⟩

end Go.Proofs.YtcdhgabcajehnaaGreatDoor
