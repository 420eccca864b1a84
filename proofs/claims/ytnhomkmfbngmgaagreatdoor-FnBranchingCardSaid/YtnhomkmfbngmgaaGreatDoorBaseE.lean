/-
  Several texts in one:
  slices.Repeat of one bool or number, copies of lists of
  A queue of numbers (a slice of the call's own that is cut at
  Distances, by the program: a queue. Conditions: sizes.
  A growing row of lists of numbers, each in a block of its
  slices.IndexFunc on rows of numbers and on edges: the first
  An edge put into a rising list of edges, by the reference.
  A transition system made of edges over a list of texts, by
-/
import Derived.Test.YtnhomkmfbngmgaaGreatDoorBaseA
import Derived.Test.YtnhomkmfbngmgaaGreatDoorBaseB
import Derived.Test.YtnhomkmfbngmgaaGreatDoorBaseC
import Derived.Test.YtnhomkmfbngmgaaGreatDoorBaseD
import Derived.Outline
import Derived.WalkSpells
import Derived.Laws.CopyOwn
import Derived.Laws.Bits64b
import Derived.StillTailTactics
import Derived.Deep.RegionLaw
import Derived.Deep.LoopGhost
import Derived.ArgAppend
import Derived.Deep.DeepCutAuto
import Derived.Deep.QuietTactic
set_option linter.unusedSimpArgs false
set_option linter.unusedVariables false
namespace Go.Proofs.YtnhomkmfbngmgaaGreatDoor
open Go.ChangeShapes Go.WideShapes Go.ChangeAt Go.RowKit
set_option linter.unusedVariables false
set_option linter.unusedSimpArgs false

set_option maxHeartbeats 800000 in
theorem mul64_one (n : Nat) (hn : n ≤ 1048576) (w : World) : Calls Tryz.prog 321 #[.int .u64 1, .int .u64 n] w fun e w' => e = .returned (.tuple #[.int .u64 0, .int .u64 n]) ∧ w = w' := by
 have m1 : bits .and .u64 (1 : Int) 4294967295 = 1 := bits_and_u64_nat 1 4294967295 (by omega) (by omega)
 have m2 : bits .and .u64 (n : Int) 4294967295 = n := by
  have h := bits_and_u64_nat n 4294967295 (by omega) (by omega)
  have e : n &&& 4294967295 = n := by
   rw [Nat.and_two_pow_sub_one_eq_mod n 32]
   omega
  rw [e] at h
  exact h
 have d1 : (n : Int) / 4294967296 = 0 := by omega
 have m0 : bits .and .u64 (0 : Int) 4294967295 = 0 := bits_and_u64_nat 0 4294967295 (by omega) (by omega)
 go_enter Tryz.func321, Tryz.ntmps321
 go_wp2
 go_ret2
 exact ⟨by simp [m1, m2, d1, m0], rfl⟩

theorem mul_one' (n : Nat) (hn : n ≤ 1048576) (w : World) : Calls Tryz.prog 266 #[.int .u64 1, .int .u64 n] w fun e w' => e = .returned (.tuple #[.int .u64 0, .int .u64 n]) ∧ w = w' := by
 have q := hide (mul64_one n hn w)
 go_enter Tryz.func266, Tryz.ntmps266
 go_wp2_with (go_at_call 321; refine q.out.mono ?_; rintro e w' ⟨rfl, rfl⟩)
 go_ret2
 exact ⟨rfl, rfl⟩

def rowR (v z : Value) (m n : Nat) : List Value := List.replicate m v ++ List.replicate (n - m) z
theorem rowR_len (v z : Value) {m n : Nat} (h : m ≤ n) : (rowR v z m n).length = n := by unfold rowR; simp; omega
theorem rowR_get (v z : Value) {m n j : Nat} (h : j < m) : (rowR v z m n)[j]? = some v := by
 unfold rowR
 rw [List.getElem?_append_left (by simpa using h)]
 simp [h]
theorem rowR_splice (v z : Value) {m k n : Nat} (h : m + k ≤ n) : splice (rowR v z m n) m (List.replicate k v) = rowR v z (m + k) n := by
 unfold splice rowR
 rw [List.take_left' (by simp), List.drop_append, List.length_replicate, List.drop_replicate, List.drop_replicate, List.length_replicate]
 have e1 : m - (m + k) = 0 := by omega
 have e2 : n - m - (m + k - m) = n - (m + k) := by omega
 rw [e1, e2, List.replicate_zero, List.nil_append, ← List.append_assoc, List.replicate_append_replicate]

set_option maxHeartbeats 1600000 in
set_option maxRecDepth 100000 in
theorem repeatB_calls (A : Option Addr) (c : Nat) (b : Bool) (n : Nat) (w : World) (lo hi : Nat) (h : SlB w lo hi A 1 [b]) (hn0 : 0 < n) (hn : n ≤ 1048576) :
  Calls Tryz.prog 207 #[.slice A 1 c, .int .i64 n] w fun e w' => ∃ A', e = .returned (.slice A' n n) ∧ SlB w' w.heap.size w'.heap.size A' n (List.replicate n b) ∧ Below w.heap.size w w' := by
 have hmk := run_make_bool n hn
 obtain ⟨b1, o1, rfl, g1, g2, g3, hc⟩ := h.at_ (by omega)
 have c0 := (hc 0 b rfl 0 _ rfl).1
 simp only [Nat.zero_mul, Nat.add_zero] at c0
 have hsz : (Tryz.prog.info? 4).map (·.size) = some 1 := by kernel_rfl
 have hb0 : Below w.heap.size w (w.alloc (.cells (madeCells #[.bool false] n) 4)) := (Below.refl _ _).alloc (Nat.le_refl _) _
 have c1 := (hb0.cell (p := ⟨b1, o1, none⟩) g3).trans c0
 have hrow : (w.alloc (.cells (madeCells #[.bool false] n) 4)).heap[w.heap.size]? = some (.cells (rowR (.bool b) (.bool false) 0 n).toArray 4 (0, 0)) := by
  rw [heap_alloc_new]
  congr 2
  apply Array.ext'
  rw [toList_madeCells_one]
  simp [rowR]
 replace hrow := hide hrow
 replace hb0 := hide hb0
 replace c1 := hide c1
 replace hsz := hide hsz
 have hE := hide elem_bool
 clear hc h
 go_enter Tryz.func207, Tryz.ntmps207
 go_wp2_with (first | (go_at_call 266; (with_reducible refine (mul_one' n hn _).mono ?_); rintro e w' ⟨rfl, rfl⟩) | (with_reducible refine wpList_copy_splice rfl (.tmp 31) (.tmp 32) 135 135 rfl 4 Tryz.underlying135 hsz.out (some ⟨w.heap.size, 0, none⟩) (some ⟨b1, o1, none⟩) n n 1 c rfl rfl w.heap.size 0 (rowR (.bool b) (.bool false) 0 n) 4 hrow.out [.bool b] ?k1 (fun _ => ⟨rfl, ⟨b1, o1, none⟩, rfl, ?k2⟩) ?k3 ?k4 w.heap.size w hb0.out (Nat.le_refl _) ?_))
 case k1 => show 1 = min 1 n; omega
 case k2 =>
  intro j v hj
  match j, hj with
  | 0, hj => simp at hj; subst hj; simpa [Addr.add] using c1.out
 case k3 => rw [rowR_len _ _ (Nat.zero_le _)]; simp; omega
 case k4 => intro v hv; simp at hv; subst hv; rfl
 rintro w1 hr1 hb1
 have hr1' : Hid (w1.heap[w.heap.size]? = some (.cells (rowR (.bool b) (.bool false) 1 n).toArray 4 (0, 0))) := by
  have := rowR_splice (.bool b) (.bool false) (m := 0) (k := 1) (n := n) (by omega)
  rw [List.replicate_one, Nat.zero_add] at this
  show _ = _
  rw [← this]
  exact hr1.out
 clear hr1 hrow hb0 c1 hmk
 go_wp2
 go_loopg [8] n (fun N m wr => ∃ k : Nat, 1 ≤ k ∧ k ≤ n ∧ m = .int .i64 k ∧ Hid (wr.heap[w.heap.size]? = some (.cells (rowR (.bool b) (.bool false) k n).toArray 4 (0, 0))) ∧ Below w.heap.size w wr ∧ Hid (n - k ≤ N))
 case atStart => exact ⟨1, Nat.le_refl _, hn0, rfl, hr1', hb1, by show _ ≤ _; omega⟩
 case round =>
  obtain ⟨k, hk1, hk, rfl, hr, hb, hN⟩ := hrel
  clear hr1' hb1
  by_cases hlt : k < n
  ·have hcut : ∀ W : World, (Instr.slice 135 (.slice (some ⟨w.heap.size, 0, none⟩) n n) (some (.int .i64 (k : Int))) none none).run Tryz.prog W = .ok (.slice (some ⟨w.heap.size, k, none⟩) (n - k) (n - k)) W := fun W => by
    rw [run_cut elem_bool (some ⟨w.heap.size, 0, none⟩) n n k hk W]
    unfold cutA
    rw [if_neg (by omega), Option.map_some, addr_add, Nat.zero_add, Nat.mul_one]
   have hhead : ∀ W : World, (Instr.slice 135 (.slice (some ⟨w.heap.size, 0, none⟩) n n) none (some (.int .i64 (k : Int))) none).run Tryz.prog W = .ok (.slice (some ⟨w.heap.size, 0, none⟩) k n) W := fun W => run_head elem_bool (some ⟨w.heap.size, 0, none⟩) n n k hk W
   have hzw := hide ((Array.getElem?_eq_some_iff.1 hr.out).1)
   have i1 : (0 : Int) ≤ (k : Int) := by omega
   have i2 : (k : Int) ≤ (n : Int) := by omega
   obtain ⟨N2, rfl⟩ : ∃ N2, gk = N2 + 1 := ⟨gk - 1, by have := hN.out; omega⟩
   have k2 : Hid (∀ j v, (List.replicate (Nat.min k (n - k)) (Value.bool b))[j]? = some v → wr.drew.cell? ((⟨w.heap.size, 0, none⟩ : Addr).add j) = some v) := by
    intro j v hj
    have hjk : j < Nat.min k (n - k) := by
     have := (List.getElem?_eq_some_iff.1 hj).1
     simpa using this
    have hjk2 : j < k := Nat.lt_of_lt_of_le hjk (Nat.min_le_left _ _)
    have hv : v = .bool b := List.eq_of_mem_replicate (List.mem_of_getElem? hj)
    subst hv
    rw [addr_add, Nat.zero_add]
    refine (cell_of_row _ _ _ _ _ (0, 0) (show wr.drew.heap[w.heap.size]? = _ from hr.out)).trans ?_
    simpa using rowR_get _ _ hjk2
   have k3 : Hid (k + (List.replicate (Nat.min k (n - k)) (Value.bool b)).length ≤ (rowR (.bool b) (.bool false) k n).length) := by
    show _ ≤ _
    rw [rowR_len _ _ hk, List.length_replicate]; have : Nat.min k (n - k) ≤ n - k := Nat.min_le_right k (n - k); omega
   have k4 : Hid (∀ v, v ∈ List.replicate (Nat.min k (n - k)) (Value.bool b) → v.oneCell' = true) := fun v hv => by rw [List.eq_of_mem_replicate hv]; rfl
   have k5 : Hid (wr.drew.heap[w.heap.size]? = some (.cells (rowR (.bool b) (.bool false) k n).toArray 4 (0, 0))) := hr.out
   have k6 := hide hb.drew
   go_wp2
   go_region_law (refine step_copy_splice (by rfl) (.tmp 41) (.tmp 44) 135 135 (by rfl) 4 Tryz.underlying135 hsz.out (some ⟨w.heap.size, k, none⟩) (some ⟨w.heap.size, 0, none⟩) (n - k) (n - k) k n (by go_simp) (by go_simp) w.heap.size k (rowR (.bool b) (.bool false) k n) 4 k5.out (List.replicate (Nat.min k (n - k)) (.bool b)) (List.length_replicate ..) (fun _ => ⟨rfl, ⟨w.heap.size, 0, none⟩, rfl, k2.out⟩) k3.out k4.out w.heap.size w k6.out (Nat.le_refl _) ?_; intro w2 hr2 hb2)
   have hmn : k + Nat.min k (n - k) ≤ n := by have : Nat.min k (n - k) ≤ n - k := Nat.min_le_right k (n - k); omega
   have hmp : 1 ≤ Nat.min k (n - k) := by show 1 ≤ min k (n - k); omega
   have hr2' : Hid (w2.heap[w.heap.size]? = some (.cells (rowR (.bool b) (.bool false) (k + Nat.min k (n - k)) n).toArray 4 (0, 0))) := by
    show _ = _
    rw [← rowR_splice (.bool b) (.bool false) hmn]
    exact hr2.out
   clear hr2 hcut hhead
   try simp only [List.length_replicate, goInt]
   generalize Nat.min k (n - k) = q at *
   go_wp2
   go_roundg N2
   case measure => omega
   case rel => exact ⟨k + q, by omega, hmn, by rw [IntWalk.i64_in _ (by omega)]; go_num, hr2', hb2, by show _ ≤ _; have := hN.out; omega⟩
  ·have hkn : k = n := by omega
   subst hkn
   have hzw := (Array.getElem?_eq_some_iff.1 hr.out).1
   go_wp2
   go_ret
   refine ⟨_, rfl, ⟨by simp, fun _ => ⟨w.heap.size, 0, rfl, Nat.le_refl _, hzw, hzw, fun i x hx j u hu => ?_⟩⟩, hb⟩
   have hik : i < k := by
    have := (List.getElem?_eq_some_iff.1 hx).1
    simpa using this
   have hxb : x = b := List.eq_of_mem_replicate (List.mem_of_getElem? hx)
   subst hxb
   have hj : j = 0 := by
    have := (List.getElem?_eq_some_iff.1 hu).1
    simp [bv] at this
    exact this
   subst hj
   simp [bv] at hu
   subst hu
   refine ⟨(cell_of_row _ _ _ _ _ (0, 0) hr.out).trans ?_, frozen_of_row _ _ _ _ _ hr.out⟩
   have := rowR_get (.bool x) (.bool false) (m := k) (n := k) hik
   simpa using this

set_option maxHeartbeats 1600000 in
set_option maxRecDepth 100000 in
theorem repeatI_calls (A : Option Addr) (c : Nat) (b : Int) (n : Nat) (w : World) (lo hi : Nat) (h : SlI w lo hi A 1 [b]) (hn0 : 0 < n) (hn : n ≤ 1048576) :
  Calls Tryz.prog 221 #[.slice A 1 c, .int .i64 n] w fun e w' => ∃ A', e = .returned (.slice A' n n) ∧ SlI w' w.heap.size w'.heap.size A' n (List.replicate n b) ∧ Below w.heap.size w w' := by
 have hmk := run_make_int n hn
 obtain ⟨b1, o1, rfl, g1, g2, g3, hc⟩ := h.at_ (by omega)
 have c0 := (hc 0 b rfl 0 _ rfl).1
 simp only [Nat.zero_mul, Nat.add_zero] at c0
 have hsz : (Tryz.prog.info? 2).map (·.size) = some 1 := by kernel_rfl
 have hb0 : Below w.heap.size w (w.alloc (.cells (madeCells #[.int .i64 0] n) 2)) := (Below.refl _ _).alloc (Nat.le_refl _) _
 have c1 := (hb0.cell (p := ⟨b1, o1, none⟩) g3).trans c0
 have hrow : (w.alloc (.cells (madeCells #[.int .i64 0] n) 2)).heap[w.heap.size]? = some (.cells (rowR (.int .i64 b) (.int .i64 0) 0 n).toArray 2 (0, 0)) := by
  rw [heap_alloc_new]
  congr 2
  apply Array.ext'
  rw [toList_madeCells_one]
  simp [rowR]
 replace hrow := hide hrow
 replace hb0 := hide hb0
 replace c1 := hide c1
 replace hsz := hide hsz
 have hE := hide elem_int64
 clear hc h
 go_enter Tryz.func221, Tryz.ntmps221
 go_wp2_with (first | (go_at_call 266; (with_reducible refine (mul_one' n hn _).mono ?_); rintro e w' ⟨rfl, rfl⟩) | (with_reducible refine wpList_copy_splice rfl (.tmp 31) (.tmp 32) 32 32 rfl 2 Tryz.underlying32 hsz.out (some ⟨w.heap.size, 0, none⟩) (some ⟨b1, o1, none⟩) n n 1 c rfl rfl w.heap.size 0 (rowR (.int .i64 b) (.int .i64 0) 0 n) 2 hrow.out [.int .i64 b] ?k1 (fun _ => ⟨rfl, ⟨b1, o1, none⟩, rfl, ?k2⟩) ?k3 ?k4 w.heap.size w hb0.out (Nat.le_refl _) ?_))
 case k1 => show 1 = min 1 n; omega
 case k2 =>
  intro j v hj
  match j, hj with
  | 0, hj => simp at hj; subst hj; simpa [Addr.add] using c1.out
 case k3 => rw [rowR_len _ _ (Nat.zero_le _)]; simp; omega
 case k4 => intro v hv; simp at hv; subst hv; rfl
 rintro w1 hr1 hb1
 have hr1' : Hid (w1.heap[w.heap.size]? = some (.cells (rowR (.int .i64 b) (.int .i64 0) 1 n).toArray 2 (0, 0))) := by
  have := rowR_splice (.int .i64 b) (.int .i64 0) (m := 0) (k := 1) (n := n) (by omega)
  rw [List.replicate_one, Nat.zero_add] at this
  show _ = _
  rw [← this]
  exact hr1.out
 clear hr1 hrow hb0 c1 hmk
 go_wp2
 go_loopg [8] n (fun N m wr => ∃ k : Nat, 1 ≤ k ∧ k ≤ n ∧ m = .int .i64 k ∧ Hid (wr.heap[w.heap.size]? = some (.cells (rowR (.int .i64 b) (.int .i64 0) k n).toArray 2 (0, 0))) ∧ Below w.heap.size w wr ∧ Hid (n - k ≤ N))
 case atStart => exact ⟨1, Nat.le_refl _, hn0, rfl, hr1', hb1, by show _ ≤ _; omega⟩
 case round =>
  obtain ⟨k, hk1, hk, rfl, hr, hb, hN⟩ := hrel
  clear hr1' hb1
  by_cases hlt : k < n
  ·have hcut : ∀ W : World, (Instr.slice 32 (.slice (some ⟨w.heap.size, 0, none⟩) n n) (some (.int .i64 (k : Int))) none none).run Tryz.prog W = .ok (.slice (some ⟨w.heap.size, k, none⟩) (n - k) (n - k)) W := fun W => by
    rw [run_cut elem_int64 (some ⟨w.heap.size, 0, none⟩) n n k hk W]
    unfold cutA
    rw [if_neg (by omega), Option.map_some, addr_add, Nat.zero_add, Nat.mul_one]
   have hhead : ∀ W : World, (Instr.slice 32 (.slice (some ⟨w.heap.size, 0, none⟩) n n) none (some (.int .i64 (k : Int))) none).run Tryz.prog W = .ok (.slice (some ⟨w.heap.size, 0, none⟩) k n) W := fun W => run_head elem_int64 (some ⟨w.heap.size, 0, none⟩) n n k hk W
   have hzw := hide ((Array.getElem?_eq_some_iff.1 hr.out).1)
   have i1 : (0 : Int) ≤ (k : Int) := by omega
   have i2 : (k : Int) ≤ (n : Int) := by omega
   obtain ⟨N2, rfl⟩ : ∃ N2, gk = N2 + 1 := ⟨gk - 1, by have := hN.out; omega⟩
   have k2 : Hid (∀ j v, (List.replicate (Nat.min k (n - k)) (Value.int .i64 b))[j]? = some v → wr.drew.cell? ((⟨w.heap.size, 0, none⟩ : Addr).add j) = some v) := by
    intro j v hj
    have hjk : j < Nat.min k (n - k) := by
     have := (List.getElem?_eq_some_iff.1 hj).1
     simpa using this
    have hjk2 : j < k := Nat.lt_of_lt_of_le hjk (Nat.min_le_left _ _)
    have hv : v = .int .i64 b := List.eq_of_mem_replicate (List.mem_of_getElem? hj)
    subst hv
    rw [addr_add, Nat.zero_add]
    refine (cell_of_row _ _ _ _ _ (0, 0) (show wr.drew.heap[w.heap.size]? = _ from hr.out)).trans ?_
    simpa using rowR_get _ _ hjk2
   have k3 : Hid (k + (List.replicate (Nat.min k (n - k)) (Value.int .i64 b)).length ≤ (rowR (.int .i64 b) (.int .i64 0) k n).length) := by
    show _ ≤ _
    rw [rowR_len _ _ hk, List.length_replicate]; have : Nat.min k (n - k) ≤ n - k := Nat.min_le_right k (n - k); omega
   have k4 : Hid (∀ v, v ∈ List.replicate (Nat.min k (n - k)) (Value.int .i64 b) → v.oneCell' = true) := fun v hv => by rw [List.eq_of_mem_replicate hv]; rfl
   have k5 : Hid (wr.drew.heap[w.heap.size]? = some (.cells (rowR (.int .i64 b) (.int .i64 0) k n).toArray 2 (0, 0))) := hr.out
   have k6 := hide hb.drew
   go_wp2
   go_region_law (refine step_copy_splice (by rfl) (.tmp 41) (.tmp 44) 32 32 (by rfl) 2 Tryz.underlying32 hsz.out (some ⟨w.heap.size, k, none⟩) (some ⟨w.heap.size, 0, none⟩) (n - k) (n - k) k n (by go_simp) (by go_simp) w.heap.size k (rowR (.int .i64 b) (.int .i64 0) k n) 2 k5.out (List.replicate (Nat.min k (n - k)) (.int .i64 b)) (List.length_replicate ..) (fun _ => ⟨rfl, ⟨w.heap.size, 0, none⟩, rfl, k2.out⟩) k3.out k4.out w.heap.size w k6.out (Nat.le_refl _) ?_; intro w2 hr2 hb2)
   have hmn : k + Nat.min k (n - k) ≤ n := by have : Nat.min k (n - k) ≤ n - k := Nat.min_le_right k (n - k); omega
   have hmp : 1 ≤ Nat.min k (n - k) := by show 1 ≤ min k (n - k); omega
   have hr2' : Hid (w2.heap[w.heap.size]? = some (.cells (rowR (.int .i64 b) (.int .i64 0) (k + Nat.min k (n - k)) n).toArray 2 (0, 0))) := by
    show _ = _
    rw [← rowR_splice (.int .i64 b) (.int .i64 0) hmn]
    exact hr2.out
   clear hr2 hcut hhead
   try simp only [List.length_replicate, goInt]
   generalize Nat.min k (n - k) = q at *
   go_wp2
   go_roundg N2
   case measure => omega
   case rel => exact ⟨k + q, by omega, hmn, by rw [IntWalk.i64_in _ (by omega)]; go_num, hr2', hb2, by show _ ≤ _; have := hN.out; omega⟩
  ·have hkn : k = n := by omega
   subst hkn
   have hzw := (Array.getElem?_eq_some_iff.1 hr.out).1
   go_wp2
   go_ret
   refine ⟨_, rfl, ⟨by simp, fun _ => ⟨w.heap.size, 0, rfl, Nat.le_refl _, hzw, hzw, fun i x hx j u hu => ?_⟩⟩, hb⟩
   have hik : i < k := by
    have := (List.getElem?_eq_some_iff.1 hx).1
    simpa using this
   have hxb : x = b := List.eq_of_mem_replicate (List.mem_of_getElem? hx)
   subst hxb
   have hj : j = 0 := by
    have := (List.getElem?_eq_some_iff.1 hu).1
    simp [iv] at this
    exact this
   subst hj
   simp [iv] at hu
   subst hu
   refine ⟨(cell_of_row _ _ _ _ _ (0, 0) hr.out).trans ?_, frozen_of_row _ _ _ _ _ hr.out⟩
   have := rowR_get (.int .i64 x) (.int .i64 0) (m := k) (n := k) hik
   simpa using this

end Go.Proofs.YtnhomkmfbngmgaaGreatDoor

namespace Go.Proofs.YtnhomkmfbngmgaaGreatDoor
open Go.ChangeShapes Go.WideShapes Go.ChangeAt Go.RowKit
set_option linter.unusedVariables false

def OwnQ (w : World) (base : Nat) (A : Option Addr) (n c : Nat) (l : List Int) : Prop :=
 l.length = n ∧ ((A = none ∧ n = 0 ∧ c = 0) ∨ ∃ g off cur, A = some ⟨g, off, none⟩ ∧ base ≤ g ∧ w.heap[g]? = some (.cells cur 2 (0, 0)) ∧ n ≤ c ∧ c ≤ maxLen ∧ off + c ≤ cur.size ∧ ∀ (i : Nat) (x : Int), l[i]? = some x → cur[off + i]? = some (.int .i64 x))

section
variable {w w' : World} {base n c : Nat} {A : Option Addr} {l : List Int}
theorem OwnQ.len (h : OwnQ w base A n c l) : l.length = n := h.1
theorem OwnQ.of (h : Own 1 iv w base 2 A n c l) : OwnQ w base A n c l := by
 refine ⟨h.1, ?_⟩
 rcases h.2.2 with ⟨hv, h0⟩ | ⟨g, cap, cur, hv, hb, hg, hnc, hcm, hcs, htake⟩
 ·injection hv with h1 _ h3
  exact .inl ⟨h1, h0, h3⟩
 ·injection hv with h1 _ h3
  subst h1 h3
  refine .inr ⟨g, 0, cur, rfl, hb, hg, hnc, hcm, by omega, fun i x hx => ?_⟩
  have h1 := flat_at flat_iv l i x hx 0 _ rfl
  rw [← htake] at h1
  rw [List.getElem?_take] at h1
  split at h1
  ·simpa using h1
  ·cases h1
theorem OwnQ.keep (h : OwnQ w base A n c l) (hk : ∀ g, base ≤ g → (Value.slice A n c).ownBlock = some g → w'.heap[g]? = w.heap[g]?) : OwnQ w' base A n c l := by
 refine ⟨h.1, ?_⟩
 rcases h.2 with hn | ⟨g, off, cur, rfl, hb, hg, rest⟩
 ·exact .inl hn
 ·exact .inr ⟨g, off, cur, rfl, hb, (hk g hb rfl).trans hg, rest⟩
theorem OwnQ.lt (h : OwnQ w base A n c l) : ∀ g, (Value.slice A n c).ownBlock = some g → base ≤ g ∧ g < w.heap.size := by
 intro g hg
 rcases h.2 with ⟨rfl, _⟩ | ⟨g', off, cur, rfl, hb, hg', rest⟩
 ·cases hg
 ·cases hg
  exact ⟨hb, (Array.getElem?_eq_some_iff.1 hg').1⟩
theorem OwnQ.kept {row : Option Nat} (h : OwnQ w base A n c l) (hg : w.grownBy w' row) (hne : (Value.slice A n c).ownBlock = none ∨ (Value.slice A n c).ownBlock ≠ row) : OwnQ w' base A n c l :=
 h.keep fun g _ e => hg.block g (h.lt g e).2 (by
  rcases hne with hne | hne
  ·rw [e] at hne; cases hne
  ·rw [e] at hne; exact hne)
theorem OwnQ.alloc (h : OwnQ w base A n c l) (o : Obj) : OwnQ (w.alloc o) base A n c l := h.kept (World.grownBy_alloc w o none) (by cases (Value.slice A n c).ownBlock <;> simp)
theorem OwnQ.drewN (h : OwnQ w base A n c l) (k : Nat) : OwnQ (w.drewN k) base A n c l := h
theorem OwnQ.head {x : Int} {r : List Int} (h : OwnQ w base A n c (x :: r)) : ∃ g off, A = some ⟨g, off, none⟩ ∧ w.cell? ⟨g, off, none⟩ = some (.int .i64 x) ∧ 0 < n ∧ n ≤ c := by
 have hl := h.1
 simp at hl
 rcases h.2 with ⟨rfl, h0, _⟩ | ⟨g, off, cur, rfl, hb, hg, h1, h2, h3, h4⟩
 ·omega
 ·refine ⟨g, off, rfl, (cell_of_row w g off cur _ (0, 0) hg).trans ?_, by omega, h1⟩
  have := h4 0 x rfl
  simpa using this
theorem OwnQ.cut {x : Int} {r : List Int} (h : OwnQ w base A n c (x :: r)) : OwnQ w base (cutA A 1 c 1) (n - 1) (c - 1) r := by
 have hl := h.1
 simp at hl
 rcases h.2 with ⟨rfl, h0, _⟩ | ⟨g, off, cur, rfl, hb, hg, h1, h2, h3, h4⟩
 ·omega
 ·refine ⟨by omega, .inr ?_⟩
  by_cases hc : c = 1
  ·subst hc
   refine ⟨g, off, cur, by simp [cutA], hb, hg, by omega, by unfold maxLen; omega, by omega, fun i y hy => ?_⟩
   have hr : r = [] := List.eq_nil_of_length_eq_zero (by omega)
   subst hr
   simp at hy
  ·refine ⟨g, off + 1, cur, by unfold cutA; rw [if_neg hc, Option.map_some, addr_add], hb, hg, by omega, by omega, by omega, fun i y hy => ?_⟩
   have := h4 (i + 1) y (by simpa using hy)
   rw [show off + 1 + i = off + (i + 1) by omega]
   exact this
end

theorem run_appQ (w : World) (ty : TypeId) {base n c : Nat} {A : Option Addr} {l : List Int} (h : OwnQ w base A n c l) (ad : Addr) (d : Nat) (x : Int) (hx : w.cell? ad = some (.int .i64 x)) (hn : n + 1 ≤ 1048576) (hbase : base ≤ w.heap.size) :
  ∃ A' c' w', (Builtin.append_ #[32, 32] ty #[.slice A n c, .slice (some ad) 1 d]).run Tryz.prog w = .ok (.slice A' (n + 1) c') w' ∧ OwnQ w' base A' (n + 1) c' (l ++ [x]) ∧ w.grownBy w' (Value.slice A n c).ownBlock ∧
   ((Value.slice A' (n + 1) c').ownBlock = (Value.slice A n c).ownBlock ∨ (Value.slice A' (n + 1) c').ownBlock = some w.heap.size) := by
 obtain ⟨i, hi, hz, hs, hby⟩ := info_parts info_int64
 have ht := Tryz.underlying32
 have hnews : ∀ j u, ([Value.int .i64 x] : List Value)[j]? = some u → w.cell? (ad.add j) = some u := by
  intro j u hj
  match j, hj with
  | 0, hj => simp at hj; subst hj; simpa [Addr.add] using hx
 have hzc : (Value.int .i64 0).cells.size = 1 := rfl
 have grown : ∀ (old : Nat) (olds : List Value), olds = l.map (Value.int .i64) → old < n + 1 → ∀ row : Option Nat,
   OwnQ (w.drew.alloc (.cells (olds.toArray ++ [Value.int .i64 x].toArray ++ Builtin.zeroCells (Value.int .i64 0).cells (grownCap w (n + 1) old 2 - (n + 1))) 2)) base (some ⟨w.heap.size, 0, none⟩) (n + 1) (grownCap w (n + 1) old 2) (l ++ [x]) ∧
   w.grownBy (w.drew.alloc (.cells (olds.toArray ++ [Value.int .i64 x].toArray ++ Builtin.zeroCells (Value.int .i64 0).cells (grownCap w (n + 1) old 2 - (n + 1))) 2)) row := by
  intro old olds hol ho row
  have hge := grownCap_ge w (n + 1) old 2
  have hcm : grownCap w (n + 1) old 2 ≤ maxLen := grownCap_le_maxLen w (n + 1) old 2 (by unfold maxLen; omega)
  refine ⟨⟨by rw [List.length_append, h.1]; rfl, .inr ⟨w.heap.size, 0, _, rfl, hbase, heap_alloc_new w.drew _, hge, hcm, ?_, fun i y hy => ?_⟩⟩, ⟨rfl, rfl, rfl, by simp, fun k hk _ => Below.heap_alloc w.drew _ k hk⟩⟩
  ·simp only [Array.size_append, List.size_toArray, size_zeroCells, hzc, hol, List.length_map, h.1, List.length_singleton]
   omega
  ·have hil : i < n + 1 := by
    have := (List.getElem?_eq_some_iff.1 hy).1
    rw [List.length_append, h.1] at this
    simpa using this
   have e1 : (olds.toArray ++ [Value.int .i64 x].toArray : Array Value) = ((l ++ [x]).map (Value.int .i64)).toArray := by rw [hol]; simp
   rw [Nat.zero_add, Array.getElem?_append_left (by rw [e1]; simp [h.1]; omega), e1]
   simp only [List.getElem?_toArray, List.getElem?_map, hy, Option.map_some]
 rcases h.2 with ⟨rfl, rfl, rfl⟩ | ⟨g, off, cur, rfl, hb, hg, hnc, hcm, hcs, hcur⟩
 ·have hl : l = [] := List.eq_nil_of_length_eq_zero h.1
  subst hl
  have hr := run_append_nil (P := Tryz.prog) w 32 ty 2 i _ ht hi hz ad 1 d [.int .i64 x] (by rw [hs]; rfl) hnews (by omega) (by omega) (by rw [hby]; omega)
  obtain ⟨g1, g2⟩ := grown 0 [] rfl (by omega) (Value.ownBlock (.slice none 0 0))
  simp only [Nat.zero_add, Array.empty_append] at g1 g2 ⊢
  exact ⟨_, _, _, hr, g1, g2, .inr rfl⟩
 ·by_cases hroom : n + 1 ≤ c
  ·have hcell : (w.cell? ⟨g, off + n, none⟩).isSome = true := by
    rw [cell_of_row w g _ cur _ (0, 0) hg, Array.getElem?_eq_getElem (by omega)]
    rfl
   have hr := run_append_room_cells (P := Tryz.prog) w 32 ty 2 i ht hi g off n c ad 1 d [.int .i64 x] (by rw [hs]; rfl) hnews (by intro u hu; simp at hu; subst hu; rfl) hroom
    (fun j hj => by
     simp at hj
     subst hj
     rw [hs, Nat.mul_one, Nat.add_zero]
     exact hcell) (fun j hj => frozen_of_row w g _ cur _ hg)
   refine ⟨_, _, _, hr, ?_, ?_, .inl rfl⟩
   ·rw [hs, Nat.mul_one]
    show OwnQ (w.setCell ⟨g, off + n, none⟩ (.int .i64 x)) base _ _ _ _
    refine ⟨by rw [List.length_append, h.1]; rfl, .inr ⟨g, off, cur.setIfInBounds (off + n) (.int .i64 x), rfl, hb, heap_setCell_same w g _ cur _ _ hg, hroom, hcm, by simpa using hcs, fun i y hy => ?_⟩⟩
    by_cases hin : i < n
    ·rw [Array.getElem?_setIfInBounds_ne (by omega)]
     rw [List.getElem?_append_left (by rw [h.1]; exact hin)] at hy
     exact hcur i y hy
    ·have : i = n := by
      have := (List.getElem?_eq_some_iff.1 hy).1
      rw [List.length_append, h.1] at this
      simp at this
      omega
     subst this
     rw [List.getElem?_append_right (by rw [h.1]; exact Nat.le_refl _), h.1, Nat.sub_self] at hy
     simp at hy
     subst hy
     simp [Array.getElem?_setIfInBounds]
     omega
   ·rw [hs, Nat.mul_one]
    show w.grownBy (w.setCell ⟨g, off + n, none⟩ (.int .i64 x)) _
    exact ⟨rfl, rfl, rfl, by rw [World.size_setCell]; exact Nat.le_refl _, fun k hk hne => Below.heap_setCell w _ _ k (fun e => hne (by rw [e]; rfl))⟩
  ·have holds : ∀ j u, (l.map (Value.int .i64))[j]? = some u → w.cell? ((⟨g, off, none⟩ : Addr).add j) = some u := by
    intro j u hj
    rw [List.getElem?_map] at hj
    obtain ⟨y, hy, rfl⟩ := Option.map_eq_some_iff.1 hj
    rw [addr_add, cell_of_row w g _ cur _ (0, 0) hg]
    exact hcur j y hy
   have hr := run_append_grow (P := Tryz.prog) w 32 ty 2 i _ ht hi hz ⟨g, off, none⟩ n c (l.map (Value.int .i64)) (by rw [List.length_map, h.1, hs, Nat.mul_one]) holds ad 1 d [.int .i64 x] (by rw [hs]; rfl) hnews (by omega) (by omega) (growslice_fits (by omega) (by rw [hby]; omega))
   obtain ⟨g1, g2⟩ := grown c _ rfl (by omega) (Value.ownBlock (.slice (some ⟨g, off, none⟩) n c))
   exact ⟨_, _, _, hr, g1, g2, .inr rfl⟩

theorem wpList_appQ {w : World} {ops : Array Oper} {rest : List Oper} {o : Oper} {a : Act} {Q : Exit → Act → World → Prop} (hgd : o.guard = none) (s x : Operand)
  (ho : o.op = .call { callee := .builtin .append, args := #[s, x], argTypes := #[32, 32] })
  {base n c : Nat} {A : Option Addr} {l : List Int} (hs : a.eval s = .slice A n c) (h : OwnQ w base A n c l) (ad : Addr) (d : Nat) (y : Int) (hx : a.eval x = .slice (some ad) 1 d) (hy : w.cell? ad = some (.int .i64 y)) (hn : n + 1 ≤ 1048576) (hbase : base ≤ w.heap.size)
  (hK : ∀ A' c' w', OwnQ w' base A' (n + 1) c' (l ++ [y]) → w.grownBy w' (Value.slice A n c).ownBlock → Below base w w' →
   ((Value.slice A' (n + 1) c').ownBlock = (Value.slice A n c).ownBlock ∨ (Value.slice A' (n + 1) c').ownBlock = some w.heap.size) → wpList Tryz.prog ops Q rest (a.put o.dst (.slice A' (n + 1) c')) w') : wpList Tryz.prog ops Q (o :: rest) a w := by
 refine wpList_plain hgd fun K hK' => ?_
 obtain ⟨A', c', w', h1, h2, h3, h4⟩ := run_appQ w o.type h ad d y hy hn hbase
 unfold Oper.wp execOp
 simp only [ho, resolve, invoke, builtin, Sem.run_bind, Sem.run_pure, Result.andThen_ok, List.map_toArray, List.map_cons, List.map_nil, hs, hx, h1]
 exact hK' _ _ (hK A' c' w' h2 h3 ((Below.refl _ _).grown h3 hbase fun k hk => (h.lt k hk).1) h4)

end Go.Proofs.YtnhomkmfbngmgaaGreatDoor

namespace Go.Proofs.YtnhomkmfbngmgaaGreatDoor
open Go.ChangeShapes Go.WideShapes Go.ChangeAt Go.RowKit Go.Sort
set_option linter.unusedVariables false
set_option linter.unusedSimpArgs false

theorem cloneO_calls (A : Option Addr) (n c : Nat) (l : List Int) (w : World) (lo hi : Nat) (h : SlI w lo hi A n l) (hn : n ≤ 1048576) :
  Calls Tryz.prog 194 #[.slice A n c] w fun e w' => ∃ A' c', e = .returned (.slice A' n c') ∧ Own 1 iv w' w.heap.size 2 A' n c' l ∧ Below w.heap.size w w' := by
 have hnil : ∀ (W : World) (a : Option Addr) (m d : Nat), (binOp .eql 32 (.slice a m d) (.slice none 0 0)).run Tryz.prog W = .ok (.bool a.isNone) W := fun W a m d => Lib.run_eql_slice_nil W 32 _ a m d 0 0 Tryz.underlying32
 have hE := hide elem_int64
 cases A with
 | none =>
  have hn0 : n = 0 := by
   rcases Nat.eq_zero_or_pos n with h0 | h0
   ·exact h0
   ·obtain ⟨b, off, e, _⟩ := h.at_ h0
    cases e
  subst hn0
  have hl := List.eq_nil_of_length_eq_zero h.len
  subst hl
  go_enter Tryz.func194, Tryz.ntmps194
  go_wp2_with fail
  go_ret
  exact ⟨none, 0, rfl, Own.nil_ _ _ _, Below.refl _ _⟩
 | some a =>
  have hs := hide (h.below ((Below.refl w.heap.size w).alloc (Nat.le_refl _) (.cells #[] 2)) (.inr (Nat.le_refl _)))
  have hz : w.heap.size ≤ (w.alloc (.cells #[] 2)).heap.size := by simp
  clear h
  go_enter Tryz.func194, Tryz.ntmps194
  go_wp2_with (first | (at_builtin; (with_reducible refine wpList_app rfl (.tmp 5) (.tmp 6) rfl hE.out flat_iv rfl (Own.made w 2 (Nat.le_refl _)) rfl hs.out ?c1 hz ?_); rotate_right; intro A2 c2 w2 hown2 hgr2 hb2 _))
  case c1 => omega
  go_ret
  rw [Nat.zero_add, List.nil_append] at hown2
  exact ⟨_, _, rfl, hown2, ((Below.refl _ _).alloc (Nat.le_refl _) _).trans hb2⟩

theorem Sl.tight' {α : Type} {size : Nat} {f : α → List Value} {w : World} {lo hi n b off : Nat} {l : List α} (h : Sl size f w lo hi (some ⟨b, off, none⟩) n l) (hn : 0 < n) : Sl size f w b (b + 1) (some ⟨b, off, none⟩) n l := by
 refine ⟨h.len, fun _ => ?_⟩
 obtain ⟨b', off', e, g1, g2, g3, hc⟩ := h.at_ hn
 cases e
 exact ⟨b, off, rfl, Nat.le_refl _, Nat.lt_succ_self _, g3, hc⟩
structure MemD (W : World) (bo oo n : Nat) (out : List Int) (qb : Nat) (A : Option Addr) (q c : Nat) (todo : List Int) : Prop where
 out : SlI W bo (bo + 1) (some ⟨bo, oo, none⟩) n out
 que : OwnQ W qb A q c todo
 o1 : bo < qb
 o2 : qb ≤ W.heap.size
section
variable {W W' : World} {bo oo n qb q c : Nat} {out : List Int} {A : Option Addr} {todo : List Int}
theorem MemD.put (h : MemD W bo oo n out qb A q c todo) {k : Nat} (hk : k < n) (x : Int) : MemD (W.setCell ⟨bo, oo + k, none⟩ (.int .i64 x)) bo oo n (out.set k x) qb A q c todo :=
 ⟨SlI.put' h.out hk x, h.que.keep fun g hg _ => Below.heap_setCell _ _ _ _ (by have := h.o1; show g ≠ bo; omega), h.o1, by rw [World.size_setCell]; exact h.o2⟩
theorem MemD.alloc (h : MemD W bo oo n out qb A q c todo) (o : Obj) : MemD (W.alloc o) bo oo n out qb A q c todo := by
 have h1 := h.o1
 have h2 := h.o2
 exact ⟨Sl.keep h.out (by simp) fun b _ _ hb => Below.heap_alloc _ _ _ hb, h.que.alloc o, h1, by simp; omega⟩
theorem MemD.drewN (h : MemD W bo oo n out qb A q c todo) (k : Nat) : MemD (W.drewN k) bo oo n out qb A q c todo := ⟨h.out.drewN k, h.que.drewN k, h.o1, h.o2⟩
theorem MemD.app (h : MemD W bo oo n out qb A q c todo) {A' : Option Addr} {q' c' : Nat} {todo' : List Int} (hq : OwnQ W' qb A' q' c' todo') (hg : W.grownBy W' (Value.slice A q c).ownBlock) : MemD W' bo oo n out qb A' q' c' todo' := by
 have h1 := h.o1
 have h2 := h.o2
 have hne : ∀ b, b < qb → some b ≠ (Value.slice A q c).ownBlock := fun b hb e => by
  have := (h.que.lt b e.symm).1
  omega
 exact ⟨Sl.keep h.out hg.size fun b hb1 hb2 hb3 => hg.block b hb3 (hne b (by omega)), hq, h1, Nat.le_trans h2 hg.size⟩
theorem MemD.cut {x : Int} (h : MemD W bo oo n out qb A q c (x :: todo)) : MemD W bo oo n out qb (cutA A 1 c 1) (q - 1) (c - 1) todo := ⟨h.out, h.que.cut, h.o1, h.o2⟩
end

def Marks (N : Nat) (l : List Int) (k : Nat) (out : List Int) : Prop := out.length = N ∧ ∀ (j : Nat) (x : Int), out[j]? = some x → (x = 0 ∧ (j : Int) ∈ l.take k) ∨ (x = -1 ∧ ¬ (j : Int) ∈ l.take k)
theorem Marks.zero (N : Nat) (l : List Int) : Marks N l 0 (List.replicate N (-1)) := by
 refine ⟨by simp, fun j x hx => .inr ⟨?_, by simp⟩⟩
 exact List.eq_of_mem_replicate (List.mem_of_getElem? hx)
theorem Marks.step {N : Nat} {l : List Int} {k v : Nat} {out : List Int} (h : Marks N l k out) (hx : l[k]? = some (v : Int)) : Marks N l (k + 1) (out.set v 0) := by
 refine ⟨by rw [List.length_set]; exact h.1, fun j x hj => ?_⟩
 have hmem : ∀ i : Nat, (i : Int) ∈ l.take (k + 1) ↔ (i : Int) ∈ l.take k ∨ i = v := fun i => by
  rw [List.take_add_one, hx, List.mem_append]
  constructor
  ·rintro (h1 | h1)
   ·exact .inl h1
   ·simp at h1
    exact .inr (by omega)
  ·rintro (h1 | h1)
   ·exact .inl h1
   ·subst h1
    exact .inr (by simp)
 by_cases e : v = j
 ·subst e
  have hl : v < out.length := by
   have := (List.getElem?_eq_some_iff.1 hj).1
   rwa [List.length_set] at this
  rw [List.getElem?_set_self hl] at hj
  exact .inl ⟨(Option.some.inj hj).symm, (hmem v).2 (.inr rfl)⟩
 ·rw [List.getElem?_set_ne e] at hj
  rcases h.2 j x hj with ⟨h1, h2⟩ | ⟨h1, h2⟩
  ·exact .inl ⟨h1, (hmem j).2 (.inl h2)⟩
  ·exact .inr ⟨h1, fun hc => by
    rcases (hmem j).1 hc with h3 | h3
    ·exact h2 h3
    ·exact e h3.symm⟩
theorem Marks.all {N n : Nat} {l : List Int} {out : List Int} (h : Marks N l n out) (hl : l.length ≤ n) : ∀ (j : Nat) (x : Int), out[j]? = some x → (x = 0 ∧ srcE l j) ∨ (x = -1 ∧ ¬ srcE l j) := fun j x hx => by
 have := h.2 j x hx
 rwa [List.take_of_length_le hl] at this

def FoundE (fw : Bool) (es : List Ed) (i : Nat) (k : Nat) (out : List Int) : Prop := ∀ b, arcE fw (es.take i) k b → ∃ y : Int, out[b]? = some y ∧ 0 ≤ y
theorem arc_take_succ {fw : Bool} {es : List Ed} {i : Nat} {e : Ed} (hx : es[i]? = some e) {a b : Nat} (h : arcE fw (es.take (i + 1)) a b) : arcE fw (es.take i) a b ∨ (if fw = true then e.1 = (a : Int) ∧ e.2.2 = (b : Int) else e.2.2 = (a : Int) ∧ e.1 = (b : Int)) := by
 obtain ⟨e', hm, h⟩ := h
 rw [List.take_add_one, hx, List.mem_append] at hm
 rcases hm with hm | hm
 ·exact .inl ⟨e', hm, h⟩
 ·simp at hm
  subst hm
  exact .inr h
theorem FoundE.zero (fw : Bool) (es : List Ed) (k : Nat) (out : List Int) : FoundE fw es 0 k out := by
 rintro b ⟨e, hm, _⟩
 simp at hm
theorem FoundE.skip {fw : Bool} {es : List Ed} {i k : Nat} {out : List Int} {e : Ed} (h : FoundE fw es i k out) (hx : es[i]? = some e)
  (hs : ∀ b : Nat, (if fw = true then e.1 = (k : Int) ∧ e.2.2 = (b : Int) else e.2.2 = (k : Int) ∧ e.1 = (b : Int)) → ∃ y : Int, out[b]? = some y ∧ 0 ≤ y) : FoundE fw es (i + 1) k out := fun b hb => by
 rcases arc_take_succ hx hb with h1 | h1
 ·exact h b h1
 ·exact hs b h1
theorem FoundE.set {fw : Bool} {es : List Ed} {i k : Nat} {out : List Int} (h : FoundE fw es i k out) (v : Nat) {x : Int} (hx : 0 ≤ x) (hv : v < out.length) : FoundE fw es i k (out.set v x) := fun b hb => by
 obtain ⟨y, hy, hy0⟩ := h b hb
 by_cases e : v = b
 ·subst e
  exact ⟨x, List.getElem?_set_self hv, hx⟩
 ·exact ⟨y, by rw [List.getElem?_set_ne e]; exact hy, hy0⟩
def BoundD (N : Nat) (out : List Int) : Prop := ∀ (j : Nat) (x : Int), out[j]? = some x → x + (negs out : Int) ≤ (N : Int)
theorem BoundD.set {N v : Nat} {out : List Int} (h : BoundD N out) {k : Nat} {m z : Int} (hk : out[k]? = some m) (hz : out[v]? = some z) (hz0 : z < 0) (hm : 0 ≤ m) : BoundD N (out.set v (m + 1)) := fun j x hj => by
 have hn := negs_set (v := m + 1) hz hz0 (by omega)
 have h1 := h k m hk
 by_cases e : v = j
 ·subst e
  rw [List.getElem?_set_self (List.getElem?_eq_some_iff.1 hz).1] at hj
  have := Option.some.inj hj
  omega
 ·rw [List.getElem?_set_ne e] at hj
  have := h j x hj
  omega
theorem map_nat_mem {l : List Int} (h : ∀ v ∈ l, 0 ≤ v) (k : Nat) : (k : Int) ∈ l ↔ k ∈ l.map Int.toNat := by
 constructor
 ·intro hk
  exact List.mem_map.2 ⟨_, hk, Int.toNat_natCast k⟩
 ·intro hk
  obtain ⟨v, hv, e⟩ := List.mem_map.1 hk
  have := h v hv
  rw [show (k : Int) = v by omega]
  exact hv
set_option maxRecDepth 100000 in
set_option maxHeartbeats 3200000 in
theorem distancesF_calls (N : Nat) (s1 : Int) (v2 : Value) (A3 : Option Addr) (n3 k3 : Nat) (A1 : Option Addr) (n1 c1 : Nat) (es : List Ed) (l : List Int) (w : World) (lo hi lo1 hi1 : Nat)
  (t3 : SlE w lo hi A3 n3 es) (t1 : SlI w lo1 hi1 A1 n1 l) (hes : n3 ≤ 1048576) (hn1 : n1 ≤ 1000) (hN1 : 1 ≤ N) (hN2 : N ≤ 40)
  (hedge : ∀ e ∈ es, (0 ≤ e.1 ∧ e.1 < (N : Int)) ∧ (0 ≤ e.2.2 ∧ e.2.2 < (N : Int))) (hin : ∀ v ∈ l, 0 ≤ v ∧ v < (N : Int)) :
  Calls Tryz.prog 125 #[.agg #[.int .i64 (N : Int), .int .i64 s1, v2, .slice A3 n3 k3], .slice A1 n1 c1, .bool true] w fun e w' => ∃ A c, e = .returned (.slice A N c) ∧ SlI w' w.heap.size w'.heap.size A N (distF true N es l) ∧ DistIs (srcE l) (arcE true es) N (distF true N es l) ∧ Below w.heap.size w w' := by
 have harc := hide (fun a k => arcE_in (es := es) (N := N) hedge (fw := true) a k)
 have hsrc : Hid (∀ k, srcE l k → k < N) := fun k hk => by have := hin k hk; omega
 have l3 := hide t3.len
 have l1 := hide t1.len
 have hb0 : Below w.heap.size w (w.alloc (.cells #[.int .i64 (N : Int), .int .i64 s1, v2, .slice A3 n3 k3] 27)) := (Below.refl _ _).alloc (Nat.le_refl _) _
 have kE := heap_alloc_new w (.cells #[.int .i64 (N : Int), .int .i64 s1, v2, .slice A3 n3 k3] 27)
 have hz : w.heap.size < (w.alloc (.cells #[.int .i64 (N : Int), .int .i64 s1, v2, .slice A3 n3 k3] 27)).heap.size := by rw [World.size_alloc]; omega
 replace t3 := hide (t3.below hb0 (.inr (Nat.le_refl _)))
 replace t1 := t1.below hb0 (.inr (Nat.le_refl _))
 have hz' := Nat.le_of_lt hz
 replace hb0 := hide hb0
 replace hedge := hide hedge
 replace hin := hide hin
 go_enter Tryz.func125, Tryz.ntmps125
 go_upto_region 1 with fail
 generalize (w.alloc (.cells #[.int .i64 (N : Int), .int .i64 s1, v2, .slice A3 n3 k3] 27)) = W0 at *
 generalize hbm : w.heap.size = bm at *
 have c0 : W0.cell? ⟨bm, 0, none⟩ = some (.int .i64 (N : Int)) := (cell_of_row _ _ 0 _ _ (0, 0) kE).trans rfl
 have c3 : W0.cell? ⟨bm, 3, none⟩ = some (.slice A3 n3 k3) := (cell_of_row _ _ 3 _ _ (0, 0) kE).trans rfl
 clear kE
 have hb1 : Below W0.heap.size W0 (W0.alloc (.cells #[.int .i64 (-1)] 2)) := (Below.refl _ _).alloc (Nat.le_refl _) _
 have d0 : (W0.alloc (.cells #[.int .i64 (-1)] 2)).cell? ⟨bm, 0, none⟩ = some (.int .i64 (N : Int)) := (hb1.cell (p := ⟨bm, 0, none⟩) hz).trans c0
 have q1 := hide (repeatI_calls (some ⟨W0.heap.size, 0, none⟩) 1 (-1) N _ _ _ (Sl.lit1' W0 2 (-1 : Int) _ rfl 1 _ rfl) hN1 (by omega))
 have hb1z := hb1.size
 replace hb1 := hide hb1
 go_wp2_with fail
 refine q1.out.mono ?_
 rintro e w1 ⟨Ao, rfl, ho1, hb2⟩
 have hbA := hb1.out.trans (hb2.mono hb1z)
 obtain ⟨bo, oo, rfl, hbo1, hbo2, -, -⟩ := ho1.at_ hN1
 have q2 := hide (cloneO_calls A1 n1 c1 l w1 lo1 hi1 (t1.below hbA (.inr (Nat.le_refl _))) (by omega))
 have ho1t : SlI w1 bo (bo + 1) (some ⟨bo, oo, none⟩) N (List.replicate N (-1)) := ho1.tight' hN1
 have hbow : W0.heap.size ≤ bo := Nat.le_trans hb1z hbo1
 replace hbA := hide hbA
 clear c0 d0 q1 ho1 hb2
 go_wp2_with fail
 refine q2.out.mono ?_
 rintro e w2 ⟨Aq, cq, rfl, hq1, hb3⟩
 have hM0 : MemD w2 bo oo N (List.replicate N (-1)) w1.heap.size Aq n1 cq l := ⟨ho1t.below hb3 (.inl (by omega)), OwnQ.of hq1, hbo2, hb3.size⟩
 have hbB := hide (hbA.out.trans (hb3.mono hbA.out.size))
 replace hM0 := hide hM0
 have hmk0 := hide (Marks.zero N l)
 have hqb : Hid (bo < w1.heap.size) := hbo2
 generalize w1.heap.size = qb at *
 clear q2 ho1t hq1 hb3 hbA
 go_upto_region 4 with fail
 go_loopw [24] (fun i wr => ∃ (k : Nat) (out : List Int), k ≤ n1 ∧ i = .int .i64 (k : Nat) ∧ Hid (MemD wr bo oo N out qb Aq n1 cq l) ∧ Hid (Marks N l k out) ∧ Below W0.heap.size W0 wr) (fun i _ => n1 - (intOf i).toNat)
 case atStart => exact ⟨0, _, Nat.zero_le _, rfl, hM0, hmk0, hbB.out⟩
 case round =>
  clear hM0 hmk0 hbB
  obtain ⟨k, out, hk, rfl, hM, hmk, hb⟩ := hrel
  by_cases hlt : k < n1
  ·obtain ⟨b, off, x, rfl, -, -, g3, hx, p0, -⟩ := SlI.get t1 hlt
   have hxin := hin.out x (List.mem_of_getElem? hx)
   obtain ⟨v, rfl⟩ : ∃ v : Nat, x = (v : Int) := ⟨x.toNat, by omega⟩
   have hv : v < N := by omega
   have hvI : (v : Int) < (N : Int) := by omega
   replace p0 := (hb.cell (p := ⟨b, off + k, none⟩) g3).trans p0
   obtain ⟨b6, o6, z, e6, -, -, -, -, cz, fz⟩ := SlI.get hM.out.out hv
   cases e6
   have hM1 := hide (hM.out.put hv 0)
   have hmk1 := hide (hmk.out.step hx)
   replace hb := hide hb
   clear hx hxin hM hmk
   go_wp2_with fail
   go_roundw
   case rel => exact ⟨k + 1, _, by omega, by go_num, hM1, hmk1, hb.out.setCell hbow _⟩
   case measure => simp [intOf]; omega
  ·have hkn : k = n1 := by omega
   subst hkn
   have hmarks := hmk.out.all (by rw [l1.out]; exact Nat.le_refl _)
   have hqs : Hid (QueIs (srcE l) (arcE true es) N out (l.map Int.toNat)) := QueIs.start _ _ hmk.out.1 hmarks (fun j => map_nat_mem (fun v hv => (hin.out v hv).1) j) hsrc.out
   have hng := negs_le out
   rw [hmk.out.1] at hng
   have hbd : Hid (BoundD N out) := fun j x hj => by
    rcases hmarks j x hj with ⟨h1, -⟩ | ⟨h1, -⟩ <;> omega
   have hpos : Hid (∀ v ∈ l, 0 ≤ v) := fun v hv => (hin.out v hv).1
   have hll := l1.out
   replace hll := hide hll
   replace hb := hide hb
   clear hmk t1
   go_wp2_with fail
   go_loopg [8] (k + N) (fun G v wr => ∃ (out todo : List Int) (A : Option Addr) (q c : Nat), v = .slice A q c ∧ Hid (MemD wr bo oo N out qb A q c todo) ∧ Hid (QueIs (srcE l) (arcE true es) N out (todo.map Int.toNat)) ∧ Hid (∀ v ∈ todo, 0 ≤ v) ∧ Hid (q + negs out ≤ 1040) ∧ Hid (BoundD N out) ∧ Below W0.heap.size W0 wr ∧ Hid (q + negs out ≤ G))
   case atStart => exact ⟨out, l, Aq, k, cq, rfl, hM, hqs, hpos, by show _ ≤ _; omega, hbd, hb.out, by show _ ≤ _; omega⟩
   case round =>
    clear hM hqs hpos hb hng hbd hmarks
    obtain ⟨out, todo, A, q, c, rfl, hM, hQ, hpos, hcap, hbd, hb, hG⟩ := hrel
    cases todo with
    | nil =>
     have hq0 : q = 0 := hM.out.que.len.symm
     subst hq0
     have hd := QueIs.done _ _ hQ.out (fun a k h => harc.out a k h) hsrc.out
     have hf := hide (distF_of hd)
     replace hd := hide hd
     have hs := hide hM.out.out
     have ho1 := hM.out.o1
     have ho2 := hM.out.o2
     clear hM hQ hpos hcap hG hbd
     go_wp2_with fail
     go_ret
     have hs9 := hs.out.more (show bm ≤ bo by omega) (show bo + 1 ≤ wr.heap.size by omega)
     exact ⟨_, _, rfl, by first | (rw [hf.out]; exact hs9) | (rw [hbm, hf.out]; exact hs9), by rw [hf.out]; exact hd.out, by first | exact hb0.out.trans (hb.mono hz') | (rw [hbm]; exact hb0.out.trans (hb.mono hz'))⟩
    | cons t todo =>
     obtain ⟨kn, rfl⟩ : ∃ kn : Nat, t = (kn : Int) := ⟨t.toNat, by have := hpos.out t (by simp); omega⟩
     obtain ⟨qg, qo, rfl, e0, hq0, hqc⟩ := hM.out.que.head
     have hcut : ∀ W : World, (Instr.slice 32 (.slice (some ⟨qg, qo, none⟩) q c) (some (.int .i64 1)) none none).run Tryz.prog W = .ok (.slice (cutA (some ⟨qg, qo, none⟩) 1 c 1) (q - 1) (c - 1)) W := fun W => run_cut elem_int64 (some ⟨qg, qo, none⟩) q c 1 (by omega) W
     have hM2 := hide hM.out.cut
     have hQ2 : Hid (QueIs (srcE l) (arcE true es) N out (kn :: todo.map Int.toNat)) := by have := hQ.out; rwa [List.map_cons, Int.toNat_natCast] at this
     have hpos2 : Hid (∀ v ∈ todo, 0 ≤ v) := fun v hv => hpos.out v (List.mem_cons_of_mem _ hv)
     obtain ⟨mk, hmk, hmk0⟩ := hQ2.out.todo_ kn (by simp)
     have hknN : kn < N := by have := (List.getElem?_eq_some_iff.1 hmk).1; rw [hQ2.out.len] at this; exact this
     obtain ⟨G2, rfl⟩ : ∃ G2, gk = G2 + 1 := ⟨gk - 1, by have := hG.out; omega⟩
     have hcap2 : Hid (q - 1 + negs out ≤ 1039) := by have := hcap.out; show _ ≤ _; omega
     have hG2 : Hid (q - 1 + negs out ≤ G2) := by have := hG.out; show _ ≤ _; omega
     have y3 := (hb.cell (p := ⟨bm, 3, none⟩) hz).trans c3
     have hfz := hide (FoundE.zero true es kn out)
     have hmkv : Hid (out[kn]? = some mk) := hmk
     replace hb := hide hb
     clear hM hQ hpos hcap hG hmk
     generalize cutA (some ⟨qg, qo, none⟩) 1 c 1 = AC at *
     generalize c - 1 = cc at *
     go_upto_region 12 with fail
     clear y3 e0 hcut
     obtain ⟨wo, rfl⟩ : ∃ wo : World, wo = wr := ⟨_, rfl⟩
     go_loopw [8, 43] (fun v i wr => ∃ (j : Nat) (out todo : List Int) (A : Option Addr) (q c : Nat), j ≤ n3 ∧ v = .slice A q c ∧ i = .int .i64 (j : Nat) ∧ Hid (MemD wr bo oo N out qb A q c todo) ∧ Hid (QueIs (srcE l) (arcE true es) N out (kn :: todo.map Int.toNat)) ∧ Hid (∀ v ∈ todo, 0 ≤ v) ∧ Hid (q + negs out ≤ 1039) ∧ Hid (BoundD N out) ∧ Hid (out[kn]? = some mk) ∧ Hid (FoundE true es j kn out) ∧ Below W0.heap.size W0 wr ∧ Hid (q + negs out ≤ G2)) (fun _ i _ => n3 - (intOf i).toNat)
     case atStart => exact ⟨0, out, todo, AC, _, _, Nat.zero_le _, rfl, rfl, hM2, hQ2, hpos2, hcap2, hbd, hmkv, hfz, hb.out, hG2⟩
     case round =>
      clear hM2 hQ2 hpos2 hcap2 hmkv hfz hb hG2 hbd
      obtain ⟨j, out, todo, A, q, c, hj, rfl, rfl, hM, hQ, hpos, hcap, hbd, hmk, hfo, hb, hG⟩ := hrel
      by_cases hlt : j < n3
      ·obtain ⟨b, off, f, lb, tg, rfl, -, -, g3, hx, p0, p1, p2, -, -, -⟩ := SlE.get t3.out hlt
       replace p0 := (hb.cell g3).trans p0
       replace p1 := (hb.cell (p := ⟨b, off + j * 3 + 1, none⟩) g3).trans p1
       replace p2 := (hb.cell (p := ⟨b, off + j * 3 + 2, none⟩) g3).trans p2
       have hed := hedge.out _ (List.mem_of_getElem? hx)
       dsimp only at hed
       obtain ⟨fn, rfl⟩ : ∃ fn : Nat, f = (fn : Int) := ⟨f.toNat, by omega⟩
       obtain ⟨tn, rfl⟩ : ∃ tn : Nat, tg = (tn : Int) := ⟨tg.toNat, by omega⟩
       have hbN : tn < N := by omega
       have hbI : (tn : Int) < (N : Int) := by omega
       have hb0I : (0 : Int) ≤ (tn : Int) := by omega
       have hkI : (kn : Int) < (N : Int) := by omega
       have hk0I : (0 : Int) ≤ (kn : Int) := by omega
       have y3 := (hb.cell (p := ⟨bm, 3, none⟩) hz).trans c3
       have hI0 : (0 : Int) ≤ (j : Int) := by omega
       have hI1 : (j : Int) < (n3 : Int) := by omega
       have hbE : Below wr.heap.size wr (wr.alloc (.cells #[.int .i64 (fn : Int), .int .i64 lb, .int .i64 (tn : Int)] 84)) := (Below.refl _ _).alloc (Nat.le_refl _) _
       have kE := heap_alloc_new wr (.cells #[.int .i64 (fn : Int), .int .i64 lb, .int .i64 (tn : Int)] 84)
       have hbB := hide (hb.trans (hbE.mono hb.size))
       have hME := hide (hM.out.alloc (.cells #[.int .i64 (fn : Int), .int .i64 lb, .int .i64 (tn : Int)] 84))
       have z0 : (wr.alloc (.cells #[.int .i64 (fn : Int), .int .i64 lb, .int .i64 (tn : Int)] 84)).cell? ⟨wr.heap.size, 0, none⟩ = some (.int .i64 (fn : Int)) := (cell_of_row _ _ 0 _ _ (0, 0) kE).trans rfl
       have z2 : (wr.alloc (.cells #[.int .i64 (fn : Int), .int .i64 lb, .int .i64 (tn : Int)] 84)).cell? ⟨wr.heap.size, 2, none⟩ = some (.int .i64 (tn : Int)) := (cell_of_row _ _ 2 _ _ (0, 0) kE).trans rfl
       clear kE hbE hM hb
       go_upto_region 14 with fail
       clear p0 p1 p2 y3
       generalize (wr.alloc (.cells #[.int .i64 (fn : Int), .int .i64 lb, .int .i64 (tn : Int)] 84)) = WE at *
       go_quiet (fail)
       have hMq : Hid (MemD (WE.drewN nq) bo oo N out qb A q c todo) := hME.out.drewN nq
       have hBq : Hid (Below W0.heap.size W0 (WE.drewN nq)) := ⟨hbB.out.os, hbB.out.tape, hbB.out.output, hbB.out.size, hbB.out.block⟩
       clear z0 z2 hME hbB
       generalize WE.drewN nq = wq at *
       have hbg : tn < out.length := by rw [hQ.out.len]; exact hbN
       obtain ⟨b6, o6, z, e6, -, -, -, hz6, cz, fz⟩ := SlI.get hMq.out.out hbN
       cases e6
       obtain ⟨b7, o7, z7, e7, -, -, -, hz7, ck, -⟩ := SlI.get hMq.out.out hknN
       cases e7
       rw [hmk.out] at hz7
       obtain rfl : mk = z7 := Option.some.inj hz7
       by_cases hak : fn = kn
       ·subst hak
        by_cases hz0 : z < 0
        ·have harcE : arcE true es fn tn := ⟨_, List.mem_of_getElem? hx, by simp⟩
         have hne : tn ≠ fn := by
          intro e
          rw [e] at hz6
          rw [hmk.out] at hz6
          have := Option.some.inj hz6
          omega
         have hQ9 : Hid (QueIs (srcE l) (arcE true es) N (out.set tn (mk + 1)) (fn :: (todo ++ [(tn : Int)]).map Int.toNat)) := by
          have := QueIs.add _ _ hQ.out hmk.out hz6 hz0 harcE
          show QueIs _ _ _ _ _
          rw [List.map_append, List.map_cons, List.map_nil, Int.toNat_natCast]
          exact this
         have hmk9 : Hid ((out.set tn (mk + 1))[fn]? = some mk) := by show _ = _; rw [List.getElem?_set_ne hne]; exact hmk.out
         have hfo9 : Hid (FoundE true es (j + 1) fn (out.set tn (mk + 1))) := (hfo.out.set tn (x := mk + 1) (by omega) hbg).skip hx (fun b hb => by
          have hbb : b = tn := by simp at hb; omega
          subst hbb
          exact ⟨_, List.getElem?_set_self hbg, by omega⟩)
         have hnegs := negs_set (v := mk + 1) hz6 hz0 (by omega)
         have hbd9 := hide (hbd.out.set hmk.out hz6 hz0 (by obtain ⟨y, hy, hy0⟩ := hQ.out.todo_ fn (by simp); rw [hmk.out] at hy; cases hy; exact hy0))
         have hmkb : mk ≤ 40 := by have := hbd.out fn mk hmk.out; omega
         have hmk0 : 0 ≤ mk := by obtain ⟨y, hy, hy0⟩ := hQ.out.todo_ fn (by simp); rw [hmk.out] at hy; cases hy; exact hy0
         have hM9 := (hMq.out.put hbN (mk + 1)).alloc (.cells #[.int .i64 (tn : Int)] 2)
         have hqlen := hM9.que.len
         have hcell0 := cell_one_new (wq.setCell ⟨bo, oo + tn, none⟩ (.int .i64 (mk + 1))) (.int .i64 (tn : Int)) 2 0 _ rfl
         rw [addr_add, Nat.zero_add, World.size_setCell] at hcell0
         replace hcell0 := hide hcell0
         have hbp := hide ((hBq.out.setCell (p := ⟨bo, oo + tn, none⟩) hbow (.int .i64 (mk + 1))).alloc (by rw [World.size_setCell]; exact hBq.out.size) (.cells #[.int .i64 (tn : Int)] 2))
         have hzq : qb ≤ ((wq.setCell ⟨bo, oo + tn, none⟩ (.int .i64 (mk + 1))).alloc (.cells #[.int .i64 (tn : Int)] 2)).heap.size := hM9.o2
         have hq9 : q + 1 ≤ 1048576 := by have := hcap.out; omega
         have hcap9 : Hid (q + 1 + negs (out.set tn (mk + 1)) ≤ 1039) := by have := hcap.out; show _ ≤ _; omega
         have hG9 : Hid (q + 1 + negs (out.set tn (mk + 1)) ≤ G2) := by have := hG.out; show _ ≤ _; omega
         have hpos9 : Hid (∀ v ∈ todo ++ [(tn : Int)], 0 ≤ v) := fun v hv => by
          rcases List.mem_append.1 hv with h1 | h1
          ·exact hpos.out v h1
          ·have : v = (tn : Int) := by simpa using h1
           omega
         have hqbo : W0.heap.size ≤ qb := by have := hM9.o1; omega
         have d2 : decide (z < (0 : Int)) = true := decide_eq_true hz0
         replace hM9 := hide hM9
         clear hx hed hz6 hz0 hne hbd hnegs hmk hfo hQ hpos hcap hG hMq hBq harcE hqlen
         go_wp2_with (first
          | (at_builtin; (with_reducible refine wpList_appQ rfl (.tmp 73) (.tmp 75) rfl rfl hM9.out.que ⟨wq.heap.size, 0, none⟩ 1 (tn : Int) rfl hcell0.out hq9 hzq ?_); intro A5 c5 w5 hown5 hgr5 hb5 _))
         have hM5 := hide (hM9.out.app hown5 hgr5)
         have hb6 := hide (hbp.out.trans (hb5.mono hqbo))
         clear hown5 hgr5 hb5 hM9
         go_roundw
         case rel => exact ⟨j + 1, _, _, A5, q + 1, c5, by omega, rfl, by go_num, hM5, hQ9, hpos9, hcap9, hbd9, hmk9, hfo9, hb6.out, hG9⟩
         case measure => simp [intOf]; omega
        ·have hfo9 : Hid (FoundE true es (j + 1) fn out) := hfo.out.skip hx (fun b hb => by
          have hbb : b = tn := by simp at hb; omega
          subst hbb
          exact ⟨z, hz6, by omega⟩)
         have d2 : decide (z < (0 : Int)) = false := decide_eq_false hz0
         clear hx hed hz6
         go_wp2_with fail
         go_roundw
         case rel => exact ⟨j + 1, _, _, A, q, c, by omega, rfl, by go_num, hMq, hQ, hpos, hcap, hbd, hmk, hfo9, hBq.out, hG⟩
         case measure => simp [intOf]; omega
       ·have hfo9 : Hid (FoundE true es (j + 1) kn out) := hfo.out.skip hx (fun b hb => by
         exfalso
         simp at hb
         omega)
        have hne : ((fn : Int) == (kn : Int)) = false := by rw [beq_eq_false_iff_ne]; omega
        clear hx hed hz6
        go_wp2_with fail
        go_roundw
        case rel => exact ⟨j + 1, _, _, A, q, c, by omega, rfl, by go_num, hMq, hQ, hpos, hcap, hbd, hmk, hfo9, hBq.out, hG⟩
        case measure => simp [intOf]; omega
      ·have hjn : j = n3 := by omega
       subst hjn
       have hQ9 : Hid (QueIs (srcE l) (arcE true es) N out (todo.map Int.toNat)) := QueIs.pop _ _ hQ.out (fun b hb => hfo.out b (by rw [List.take_of_length_le (by rw [l3.out]; exact Nat.le_refl _)]; exact hb))
       have hcap9 : Hid (q + negs out ≤ 1040) := by have := hcap.out; show _ ≤ _; omega
       replace hb := hide hb
       clear hQ hcap hfo hmk
       go_wp2_with fail
       go_roundg G2
       case measure => omega
       case rel => exact ⟨out, todo, A, q, c, rfl, hM, hQ9, hpos, hcap9, hbd, hb.out, hG⟩

end Go.Proofs.YtnhomkmfbngmgaaGreatDoor

namespace Go.Proofs.YtnhomkmfbngmgaaGreatDoor
open Go.ChangeShapes Go.WideShapes Go.ChangeAt Go.RowKit
set_option linter.unusedVariables false
set_option linter.unusedSimpArgs false

abbrev RowsI (most : Nat) := RowsG (id : Hd → Hd) 1 sv 1 iv most
abbrev HI := Option Addr × Nat
def hiV (N : Nat) (x : HI) : List Value := [.slice x.1 N x.2]
theorem flat_hiV (N : Nat) : Flat (hiV N) 1 := ⟨fun _ => rfl, fun x u h => by simp [hiV] at h; subst h; rfl⟩
theorem elem_rowI : Elem Tryz.prog 162 32 1 24 := Elem.of (z := .slice none 0 0) Tryz.underlying162 (by kernel_rfl) rfl (by omega) (by omega)
structure GrowI (w : World) (base N : Nat) (A : Option Addr) (n c : Nat) (R : List (HI × List Int)) : Prop where
 own : Own 1 (hiV N) w base 32 A n c (R.map (·.1))
 rows : ∀ r ∈ R, SlI w base w.heap.size r.1.1 N r.2
 off : ∀ r ∈ R, 0 < N → ∀ b off, r.1.1 = some ⟨b, off, none⟩ → (Value.slice A n c).ownBlock ≠ some b
section
variable {w w4 w5 w' : World} {base N n c : Nat} {A : Option Addr} {R : List (HI × List Int)}
theorem GrowI.len (h : GrowI w base N A n c R) : R.length = n := by have := h.own.len; rwa [List.length_map] at this
theorem GrowI.keep (h : GrowI w base N A n c R) (hs : w.heap.size ≤ w'.heap.size) (hk : ∀ b, base ≤ b → b < w.heap.size → w'.heap[b]? = w.heap[b]?) : GrowI w' base N A n c R :=
 ⟨h.own.keep fun g hg => hk g (h.own.lt g hg).1 (h.own.lt g hg).2, fun r hr => ((h.rows r hr).keep hs fun b h1 _ h3 => hk b h1 h3).more (Nat.le_refl _) hs, h.off⟩
theorem GrowI.below (h : GrowI w base N A n c R) (hb : Below w.heap.size w w') : GrowI w' base N A n c R := h.keep hb.size fun b _ h2 => hb.block b h2
theorem GrowI.one {Ah : Option Addr} {ch : Nat} {s : List Int} (hs : SlI w base w.heap.size Ah N s) (hb : base ≤ w.heap.size) : GrowI (w.alloc (.cells #[.slice Ah N ch] 32)) base N (some ⟨w.heap.size, 0, none⟩) 1 1 [((Ah, ch), s)] := by
 have hbel : Below w.heap.size w (w.alloc (.cells #[.slice Ah N ch] 32)) := (Below.refl _ _).alloc (Nat.le_refl _) _
 refine ⟨⟨rfl, by simp [hiV], .inr ⟨w.heap.size, 1, #[.slice Ah N ch], rfl, hb, heap_alloc_new w _, Nat.le_refl _, by decide, rfl, rfl⟩⟩, fun r hr => ?_, fun r hr hN b off e => ?_⟩
 ·obtain rfl := List.mem_singleton.1 hr
  exact (hs.below hbel (.inr (Nat.le_refl _))).more (Nat.le_refl _) hbel.size
 ·obtain rfl := List.mem_singleton.1 hr
  obtain ⟨b', off', e', -, -, g3, -⟩ := hs.at_ hN
  have e : Ah = _ := e
  rw [e] at e'
  cases e'
  intro e2
  have e2 : some w.heap.size = some b := e2
  injection e2 with e2
  omega
theorem GrowI.push (h : GrowI w4 base N A n c R) {Ah : Option Addr} {ch : Nat} {s : List Int} (hs : SlI w4 base w4.heap.size Ah N s) (ho : ∀ b off, 0 < N → Ah = some ⟨b, off, none⟩ → (Value.slice A n c).ownBlock ≠ some b)
  {A5 : Option Addr} {c5 : Nat} (hown : Own 1 (hiV N) w5 base 32 A5 (n + 1) c5 (R.map (·.1) ++ [(Ah, ch)])) (hgr : w4.grownBy w5 (Value.slice A n c).ownBlock)
  (hat : (Value.slice A5 (n + 1) c5).ownBlock = (Value.slice A n c).ownBlock ∨ (Value.slice A5 (n + 1) c5).ownBlock = some w4.heap.size) :
  GrowI w5 base N A5 (n + 1) c5 (R ++ [((Ah, ch), s)]) := by
 have hz5 := hgr.size
 have keepS : ∀ (B : Option Addr) (l : List Int), SlI w4 base w4.heap.size B N l → (∀ b off, 0 < N → B = some ⟨b, off, none⟩ → (Value.slice A n c).ownBlock ≠ some b) → SlI w5 base w5.heap.size B N l := by
  intro B l hl hne
  refine ⟨hl.1, fun hm => ?_⟩
  obtain ⟨b, off, rfl, g1, g2, g3, hc⟩ := hl.2 hm
  have hk := hgr.block b g3 (fun e => hne b off hm rfl e.symm)
  refine ⟨b, off, rfl, g1, by omega, by omega, fun k x hx j u hu => ?_⟩
  obtain ⟨h1, h2⟩ := hc k x hx j u hu
  exact ⟨(World.cell?_of_block (w := w4) (by simpa using hk)).trans h1, (World.frozen?_of_block (w := w4) (by simpa using hk)).trans h2⟩
 have hoff : ∀ (B : Option Addr) (l : List Int), SlI w4 base w4.heap.size B N l → (∀ b off, 0 < N → B = some ⟨b, off, none⟩ → (Value.slice A n c).ownBlock ≠ some b) → ∀ b off, 0 < N → B = some ⟨b, off, none⟩ → (Value.slice A5 (n + 1) c5).ownBlock ≠ some b := by
  intro B l hl hne b off hN e
  rcases hat with h1 | h1
  ·rw [h1]; exact hne b off hN e
  ·rw [h1]
   obtain ⟨b', off', e', -, -, g3, -⟩ := hl.at_ hN
   rw [e] at e'
   cases e'
   intro e2
   injection e2 with e2
   omega
 refine ⟨by rw [List.map_append]; exact hown, fun r hr => ?_, fun r hr hm b off e => ?_⟩
 ·rcases List.mem_append.1 hr with hr | hr
  ·exact keepS _ _ (h.rows r hr) fun b off hm e => h.off r hr hm b off e
  ·obtain rfl := List.mem_singleton.1 hr
   exact keepS _ _ hs ho
 ·rcases List.mem_append.1 hr with hr | hr
  ·exact hoff _ _ (h.rows r hr) (fun b off hm e => h.off r hr hm b off e) b off hm e
  ·obtain rfl := List.mem_singleton.1 hr
   exact hoff _ _ hs ho b off hm e
theorem GrowI.get (h : GrowI w base N A n c R) {k : Nat} (hk : k < n) : ∃ b off Ah ch s, A = some ⟨b, off, none⟩ ∧ base ≤ b ∧ b < w.heap.size ∧ R[k]? = some ((Ah, ch), s) ∧ w.cell? ⟨b, off + k, none⟩ = some (.slice Ah N ch) ∧ SlI w base w.heap.size Ah N s ∧
  ∀ b off, 0 < N → Ah = some ⟨b, off, none⟩ → (Value.slice A n c).ownBlock ≠ some b := by
 have hl := h.len
 obtain ⟨b, off, e, g1, g2, g3, hc⟩ := (h.own.sl (flat_hiV N)).at_ (by omega)
 have hr : R[k]? = some R[k] := List.getElem?_eq_getElem (by omega)
 have hm : R[k] ∈ R := List.getElem_mem _
 have h0 := (hc k R[k].1 (by rw [List.getElem?_map, hr]; rfl) 0 _ rfl).1
 rw [Nat.mul_one, Nat.add_zero] at h0
 exact ⟨b, off, R[k].1.1, R[k].1.2, R[k].2, e, g1, g3, hr, h0, h.rows _ hm, fun b off hN e => h.off _ hm hN b off e⟩
end

end Go.Proofs.YtnhomkmfbngmgaaGreatDoor

namespace Go.Proofs.YtnhomkmfbngmgaaGreatDoor
open Go.ChangeShapes Go.WideShapes Go.ChangeAt Go.RowKit
set_option linter.unusedVariables false
set_option linter.unusedSimpArgs false

def fstG {α : Type} (G : α → Bool) (l : List α) (i : Int) : Prop := (i = -1 ∧ l.any G = false) ∨ ∃ k : Nat, i = k ∧ k < l.length ∧ (l.take k).any G = false ∧ ∃ x, l[k]? = some x ∧ G x = true
set_option maxRecDepth 100000 in
theorem equalI_calls (A B : Option Addr) (n m c d : Nat) (l r : List Int) (w : World) (lo hi lo' hi' : Nat) (h : SlI w lo hi A n l) (g : SlI w lo' hi' B m r) (hn : n ≤ 1048576) (hm : m ≤ 1048576) :
  Calls Tryz.prog 80 #[.slice A n c, .slice B m d] w fun e w' => e = .returned (.bool (decide (l = r))) ∧ Below w.heap.size w w' := by
 have hl := hide h.len
 have hr := hide g.len
 by_cases hnm : n = m
 ·subst hnm
  replace h := hide h
  replace g := hide g
  go_enter Tryz.func80, Tryz.ntmps80
  go_wp2
  go_loopw [13] (fun i wr => ∃ k : Nat, k ≤ n ∧ i = .int .i64 k ∧ Below w.heap.size w wr ∧ l.take k = r.take k) (fun i _ => n - (intOf i).toNat)
  case atStart => exact ⟨0, Nat.zero_le _, rfl, (Below.refl _ _), rfl⟩
  case round =>
   obtain ⟨k, hk, rfl, hb, he⟩ := hrel
   replace he := hide he
   by_cases hlt : k < n
   ·obtain ⟨b, off, x, rfl, g1, g2, g3, hx, c0, -⟩ := h.out.get hlt
    obtain ⟨b', off', y, rfl, g1', g2', g3', hy, d0, -⟩ := g.out.get hlt
    replace c0 := (hb.cell (p := ⟨b, off + k, none⟩) g3).trans c0
    replace d0 := (hb.cell (p := ⟨b', off' + k, none⟩) g3').trans d0
    replace hx := hide hx
    replace hy := hide hy
    clear h g
    have hk0 : (0 : Int) ≤ (k : Int) := by omega
    have hk1 : (k : Int) < (n : Int) := by omega
    by_cases hxy : x = y
    ·subst hxy
     have hq : (x != x) = false := by simp
     go_wp2
     go_quiet (fail)
     go_wp2
     go_roundw
     case rel => exact ⟨k + 1, by omega, by go_num, by first | exact hb | exact ⟨hb.os, hb.tape, hb.output, hb.size, hb.block⟩, take_step he.out hx.out hy.out rfl⟩
     case measure => simp [intOf]; omega
    ·have hne := hide (take_stop hx.out hy.out hxy)
     have hq : (x != y) = true := by rw [bne_iff_ne]; exact hxy
     go_wp2
     go_quiet (fail)
     go_wp2
     go_ret
     exact ⟨by simp [hne.out], by first | exact hb | exact ⟨hb.os, hb.tape, hb.output, hb.size, hb.block⟩⟩
   ·have hkn : k = n := by omega
    subst hkn
    clear h g
    go_wp2
    go_ret
    exact ⟨by rw [take_all he.out hl.out hr.out]; simp, hb⟩
 ·have hne : Hid (l ≠ r) := fun e => hnm (by rw [← hl.out, ← hr.out, e])
  have hb0 : ((n : Int) != (m : Int)) = true := by rw [bne_iff_ne]; omega
  clear h g
  go_enter Tryz.func80, Tryz.ntmps80
  go_wp2
  go_ret
  exact ⟨by simp [hne.out], Below.refl _ _⟩

set_option maxRecDepth 100000 in
theorem indexFuncR_calls (F : FuncId) (caps : Array Value) (G : List Int → Bool) (A : Option Addr) (n c : Nat) (R : List (Hd × List Int)) (w : World) (lo hi : Nat) (h : RowsI 1048576 w lo hi A n R) (hn : n ≤ 1048576)
  (hF : ∀ (v : Value) (W : World), Sem.run Tryz.prog (callFunc F (#[v] ++ caps)) W = .ok (.enter F (#[v] ++ caps)) W)
  (hcl : ∀ (A : Option Addr) (m d : Nat) (l : List Int) (W : World), ((A, m, d), l) ∈ R → Below w.heap.size w W → SlI W lo hi A m l → m ≤ 1048576 → Calls Tryz.prog F (#[.slice A m d] ++ caps) W (Says (G l) W)) :
  Calls Tryz.prog 239 #[.slice A n c, .func (.func F) #[] caps] w fun e w' => ∃ i : Int, e = .returned (.int .i64 i) ∧ fstG G (R.map (·.2)) i ∧ Below w.heap.size w w' := by
 have hlen : Hid (R.length = n) := by have := h.1.len; rwa [List.length_map] at this
 replace hcl := hide hcl
 replace h := hide h
 go_enter Tryz.func239, Tryz.ntmps239
 go_wp2
 go_loopw [8] (fun i wr => ∃ k : Nat, k ≤ n ∧ i = .int .i64 k ∧ Below w.heap.size w wr ∧ Hid (((R.map (·.2)).take k).any G = false)) (fun i _ => n - (intOf i).toNat)
 case atStart => exact ⟨0, Nat.zero_le _, rfl, Below.refl _ _, rfl⟩
 case round =>
  obtain ⟨k, hk, rfl, hb, ha⟩ := hrel
  by_cases hlt : k < n
  ·have hxr : R[k]? = some (R[k]'(by have := hlen.out; omega)) := List.getElem?_eq_getElem _
   have hmem : (R[k]'(by have := hlen.out; omega)) ∈ R := List.getElem_mem _
   obtain ⟨hs0, hm0⟩ := h.out.2 _ hmem
   obtain ⟨b, off, hA, g1, g2, g3, hc0⟩ := h.out.1.at_ (show 0 < n by omega)
   have c0 := (hc0 k _ (by rw [List.getElem?_map, hxr]; rfl) 0 _ rfl).1
   rw [Nat.mul_one, Nat.add_zero] at c0
   generalize (R[k]'(by have := hlen.out; omega)) = r at *
   obtain ⟨⟨Ah, m, ch⟩, s⟩ := r
   (try dsimp only at hs0 hm0 c0)
   replace c0 := (hb.cell (p := ⟨b, off + k, none⟩) g3).trans c0
   subst hA
   have hc := hcl.out Ah m ch s wr hmem hb (hs0.below hb (.inr (Nat.le_refl _))) hm0
   have hx2 : (R.map (·.2))[k]? = some s := by rw [List.getElem?_map, hxr]; rfl
   replace hx2 := hide hx2
   clear h hcl hs0 hxr hmem hc0
   by_cases hg : G s = true
   ·rw [hg] at hc
    replace hc := hide hc
    have hy : Hid (fstG G (R.map (·.2)) k) := .inr ⟨k, rfl, by rw [List.length_map, hlen.out]; exact hlt, ha.out, s, hx2.out, hg⟩
    clear hg
    go_wp2_with fail
    refine hc.out.mono ?_
    rintro e w1 ⟨rfl, hb1⟩
    go_wp2_with fail
    go_ret
    exact ⟨_, rfl, hy.out, hb.trans (hb1.mono hb.size)⟩
   ·replace hg := Bool.eq_false_iff.2 hg
    rw [hg] at hc
    replace hc := hide hc
    have hy := hide (any_take_succ ha.out hx2.out hg)
    clear hg
    go_wp2_with fail
    refine hc.out.mono ?_
    rintro e w1 ⟨rfl, hb1⟩
    go_wp2_with fail
    go_roundw
    case rel => exact ⟨k + 1, by omega, by go_num, hb.trans (hb1.mono hb.size), hy⟩
    case measure => simp [intOf]; omega
  ·have hkn : k = n := by omega
   subst hkn
   clear hcl h
   go_wp2
   go_ret
   have hy := ha.out
   rw [List.take_of_length_le (by rw [List.length_map, hlen.out]; exact Nat.le_refl _)] at hy
   exact ⟨_, rfl, .inl ⟨rfl, hy⟩, hb⟩

end Go.Proofs.YtnhomkmfbngmgaaGreatDoor

namespace Go.Proofs.YtnhomkmfbngmgaaGreatDoor
open Go.ChangeShapes Go.WideShapes Go.ChangeAt Go.RowKit
set_option linter.unusedVariables false
set_option linter.unusedSimpArgs false

theorem drewN_grow {w w' : World} {row : Option Nat} (h : w.grownBy w' row) (k : Nat) : w.grownBy (w'.drewN k) row := ⟨h.os, h.tape, h.output, h.size, h.block⟩
theorem setCell_grow {w w' : World} {row : Option Nat} (h : w.grownBy w' row) {g i : Nat} (hg : some g = row ∨ w.heap.size ≤ g) (v : Value) : w.grownBy (w'.setCell ⟨g, i, none⟩ v) row :=
 ⟨h.os, h.tape, h.output, by rw [World.size_setCell]; exact h.size, fun k hk hne => (Below.heap_setCell _ _ _ _ (by
  show k ≠ g
  rintro rfl
  rcases hg with e | e
  ·exact hne e
  ·omega)).trans (h.block k hk hne)⟩
theorem drewN_below (w : World) (k : Nat) {B : Nat} : Below B w (w.drewN k) := ⟨rfl, rfl, rfl, Nat.le_refl _, fun _ _ => rfl⟩
set_option maxRecDepth 100000 in
set_option maxHeartbeats 3200000 in
theorem l11Put_calls (A : Option Addr) (n c : Nat) (es : List Ed) (f lb t : Int) (w : World) (base : Nat) (h : Own 3 ev w base 84 A n c es) (hs : RisE es) (hn : n ≤ 100000) (hbase : base ≤ w.heap.size) :
  Calls Tryz.prog 175 #[.slice A n c, .agg #[.int .i64 f, .int .i64 lb, .int .i64 t]] w fun e w' => ∃ A' n' c' es', e = .returned (.slice A' n' c') ∧ Own 3 ev w' base 84 A' n' c' es' ∧ PutO es (f, lb, t) es' ∧ Below base w w' ∧ w.grownBy w' (Value.slice A n c).ownBlock ∧ ((Value.slice A' n' c').ownBlock = (Value.slice A n c).ownBlock ∨ ∃ g, (Value.slice A' n' c').ownBlock = some g ∧ w.heap.size ≤ g) := by
 have hE := hide elem_edge
 have hlen := h.len
 have hb0 := hide ((Below.refl base w).alloc hbase (.cells #[.int .i64 f, .int .i64 lb, .int .i64 t] 84))
 have k0 := heap_alloc_new w (.cells #[.int .i64 f, .int .i64 lb, .int .i64 t] 84)
 have hO0 := hide (h.alloc (.cells #[.int .i64 f, .int .i64 lb, .int .i64 t] 84))
 have hz0 : w.heap.size < (w.alloc (.cells #[.int .i64 f, .int .i64 lb, .int .i64 t] 84)).heap.size := by simp
 obtain ⟨wA, hwA⟩ : ∃ wA, wA = w.alloc (.cells #[.int .i64 f, .int .i64 lb, .int .i64 t] 84) := ⟨_, rfl⟩
 have hG0 := hide (World.grownBy_alloc w (.cells #[.int .i64 f, .int .i64 lb, .int .i64 t] 84) (Value.slice A n c).ownBlock)
 rw [← hwA] at hb0 k0 hO0 hz0 hG0
 have hlt := hide h.lt
 replace hs := hide hs
 clear h
 obtain ⟨be, hbe⟩ : ∃ be, be = w.heap.size := ⟨_, rfl⟩
 have hne : Hid (∀ g, (Value.slice A n c).ownBlock = some g → base ≤ g ∧ g < be) := fun g e => by rw [hbe]; exact hlt.out g e
 rw [← hbe] at k0
 have hkeep : Hid (∀ W : World, W.heap[be]? = wA.heap[be]? → W.cell? ⟨be, 0, none⟩ = some (.int .i64 f) ∧ W.cell? ⟨be, 1, none⟩ = some (.int .i64 lb) ∧ W.cell? ⟨be, 2, none⟩ = some (.int .i64 t)) := fun W hW =>
  ⟨(cell_of_row _ _ 0 _ _ (0, 0) (hW.trans k0)).trans rfl, (cell_of_row _ _ 1 _ _ (0, 0) (hW.trans k0)).trans rfl, (cell_of_row _ _ 2 _ _ (0, 0) (hW.trans k0)).trans rfl⟩
 clear k0 hlt
 go_enter Tryz.func175, Tryz.ntmps175
 go_upto_region 2 with fail
 rw [← hwA, ← hbe]
 replace hwA := hide hwA
 have hbe2 : base ≤ be := by rw [hbe]; exact hbase
 have hbe3 : be < wA.heap.size := by rw [hbe]; exact hz0
 replace hbe := hide hbe
 go_loopw [5] (fun i wr => ∃ (k : Nat) (N : Nat), k ≤ n ∧ i = .int .i64 (k : Nat) ∧ wr = wA.drewN N ∧ Hid (∀ j x, k ≤ j → es[j]? = some x → edLess (f, lb, t) x = true)) (fun i _ => (intOf i).toNat)
 case atStart => exact ⟨n, 0, Nat.le_refl _, by go_num, rfl, fun j x h1 h2 => by have := (List.getElem?_eq_some_iff.1 h2).1; omega⟩
 case round =>
  obtain ⟨k, N, hk, rfl, rfl, hhi⟩ := hrel
  obtain ⟨e0, e1, e2⟩ := hkeep.out (wA.drewN N) rfl
  by_cases hgo : ∃ k' x, k = k' + 1 ∧ es[k']? = some x ∧ edLess (f, lb, t) x = true
  ·obtain ⟨k', ⟨x, y, z⟩, rfl, hx, hl⟩ := hgo
   have q0 : (0 : Int) < (k' : Int) + 1 := by omega
   have q1 : (0 : Int) ≤ (k' : Int) := by omega
   have q2 : (k' : Int) < (n : Int) := by omega
   obtain ⟨g, off, x', y', z', rfl, -, -, -, hx', d0, d1, d2, -⟩ := SlE.get ((hO0.out.keep (w' := wA.drewN N) fun _ _ => rfl).sl flat_ev) (show k' < n by omega)
   rw [hx] at hx'
   injection hx' with hx'
   injection hx' with r1 r2
   injection r2 with r2 r3
   subst r1 r2 r3
   have ql := l11Less_calls be 0 g (off + k' * 3) f lb t x y z (wA.drewN N) e0 e1 e2 d0 d1 d2
   rw [hl] at ql
   replace ql := hide ql
   have hhi2 : Hid (∀ j x, k' ≤ j → es[j]? = some x → edLess (f, lb, t) x = true) := fun j u h1 h2 => by
    by_cases e : j = k'
    ·subst e; rw [hx] at h2; injection h2 with h2; rw [← h2]; exact hl
    ·exact hhi.out j u (by omega) h2
   clear hx hl hhi
   go_wp2_with (first | (go_at_call 232; (with_reducible refine ql.out.mono ?_); rintro e w' ⟨rfl, N2, rfl⟩))
   go_roundw
   case rel => exact ⟨k', N + N2, by omega, by go_num, rfl, hhi2.out⟩
   case measure => simp [intOf]
  ·have hsplit : k = 0 ∨ ∃ k' x y z, k = k' + 1 ∧ es[k']? = some (x, y, z) ∧ edLess (f, lb, t) (x, y, z) = false := by
    cases k with
    | zero => exact .inl rfl
    | succ k' =>
     obtain ⟨x, hx⟩ : ∃ x, es[k']? = some x := ⟨_, List.getElem?_eq_getElem (by omega)⟩
     exact .inr ⟨k', x.1, x.2.1, x.2.2, rfl, hx, Bool.eq_false_iff.2 fun h => hgo ⟨k', x, rfl, hx, h⟩⟩
   clear hgo
   by_cases hold : ∃ k' , k = k' + 1 ∧ es[k']? = some (f, lb, t)
   ·obtain ⟨k', rfl, hx⟩ := hold
    have q0 : (0 : Int) < (k' : Int) + 1 := by omega
    have q1 : (0 : Int) ≤ (k' : Int) := by omega
    have q2 : (k' : Int) < (n : Int) := by omega
    obtain ⟨g, off, x', y', z', rfl, -, -, -, hx', d0, d1, d2, -⟩ := SlE.get ((hO0.out.keep (w' := wA.drewN N) fun _ _ => rfl).sl flat_ev) (show k' < n by omega)
    rw [hx] at hx'
    injection hx' with hx'
    injection hx' with r1 r2
    injection r2 with r2 r3
    subst r1 r2 r3
    have ql := l11Less_calls be 0 g (off + k' * 3) f lb t f lb t (wA.drewN N) e0 e1 e2 d0 d1 d2
    rw [edLess_irr] at ql
    replace ql := hide ql
    have hput := hide (PutO.old hs.out (List.mem_of_getElem? hx))
    have q3 : IntKind.i64.wrap (k' : Int) = (k' : Int) := IntWalk.i64_in _ (by omega)
    clear hx hhi hsplit
    go_upto_region 4 with (first | (go_at_call 232; (with_reducible refine ql.out.mono ?_); rintro e w' ⟨rfl, N2, rfl⟩))
    obtain ⟨wq, hwq⟩ : ∃ wq, wq = wA.drewN (N + N2) := ⟨_, rfl⟩
    have u0 : wq.cell? ⟨be, 0, none⟩ = some (.int .i64 f) := by rw [hwq]; exact e0
    have u1 : wq.cell? ⟨be, 1, none⟩ = some (.int .i64 lb) := by rw [hwq]; exact e1
    have u2 : wq.cell? ⟨be, 2, none⟩ = some (.int .i64 t) := by rw [hwq]; exact e2
    have v0 : wq.cell? ⟨g, off + k' * 3, none⟩ = some (.int .i64 f) := by rw [hwq]; exact d0
    have v1 : wq.cell? ⟨g, off + k' * 3 + 1, none⟩ = some (.int .i64 lb) := by rw [hwq]; exact d1
    have v2 : wq.cell? ⟨g, off + k' * 3 + 2, none⟩ = some (.int .i64 t) := by rw [hwq]; exact d2
    have hOq : Hid (Own 3 ev wq base 84 (some ⟨g, off, none⟩) n c es) := by rw [hwq]; exact hO0.out.keep fun _ _ => rfl
    have hbq : Hid (Below base w wq) := by rw [hwq]; exact hb0.out.trans (drewN_below _ _)
    have hGq : Hid (w.grownBy wq (Value.slice (some ⟨g, off, none⟩) n c).ownBlock) := by rw [hwq]; exact drewN_grow hG0.out _
    rw [← hwq]
    replace hwq := hide hwq
    clear d0 d1 d2 e0 e1 e2
    go_quiet (fail)
    go_wp2_with fail
    go_ret
    exact ⟨_, _, _, es, rfl, hOq.out.keep fun _ _ => rfl, hput.out, hbq.out.trans (drewN_below _ _), drewN_grow hGq.out _, .inl rfl⟩
   ·have hput : Hid (PutO es (f, lb, t) (es.take k ++ (f, lb, t) :: es.drop k)) := PutO.new hs.out (by
     rcases hsplit with h | ⟨k', x, y, z, rfl, hx, hl⟩
     ·exact .inl h
     ·refine .inr ⟨_, hx, ?_⟩
      rcases edLess_total (a := (f, lb, t)) (b := (x, y, z)) (fun e => hold ⟨k', rfl, by rw [hx, e]⟩) with h | h
      ·rw [hl] at h; cases h
      ·exact h) hhi.out
    rcases hsplit with hk0 | ⟨k', x, y, z, hk1, hx, hl⟩
    focus
     have z1 : ¬ (0 : Int) < (k : Int) := by omega
     have z2 : decide ((0 : Int) < (k : Int)) = false := decide_eq_false z1
     have z3 : decide (0 < k) = false := decide_eq_false (by omega)
     have z4 : ¬ 0 < k := by omega
     clear hold hhi hk0
     go_upto_region 4 with fail
     go_quiet (fail)
     go_upto_region 6 with fail
     obtain ⟨wv, hwv⟩ : ∃ wv, wv = (wA.drewN N).drewN nq := ⟨_, rfl⟩
     have hOv : Hid (Own 3 ev wv base 84 A n c es) := by rw [hwv]; exact hO0.out.keep fun _ _ => rfl
     have hbv : Hid (Below base w wv) := by rw [hwv]; exact (hb0.out.trans (drewN_below _ _)).trans (drewN_below _ _)
     have hev : Hid (wv.heap[be]? = wA.heap[be]?) := by rw [hwv]; rfl
     have hGv : Hid (w.grownBy wv (Value.slice A n c).ownBlock) := by rw [hwv]; exact drewN_grow (drewN_grow hG0.out _) _
     have hzv : be < wv.heap.size := by rw [hwv]; exact hbe3
     rw [← hwv]
     replace hwv := hide hwv
     clear z1 z2 z3 z4 e0 e1 e2
    rotate_left
    focus
     have hne3 : ¬ (x = f ∧ y = lb ∧ z = t) := fun ⟨a, b, c⟩ => hold ⟨k', hk1, by rw [hx, a, b, c]⟩
     have q0 : (0 : Int) < (k' : Int) + 1 := by omega
     have q1 : (0 : Int) ≤ (k' : Int) := by omega
     have q2 : (k' : Int) < (n : Int) := by omega
     have q3 : IntKind.i64.wrap (k' : Int) = (k' : Int) := IntWalk.i64_in _ (by omega)
     clear hold hhi
     subst hk1
     obtain ⟨g, off, x', y', z', eA, -, -, -, hx', d0, d1, d2, -⟩ := SlE.get ((hO0.out.keep (w' := wA.drewN N) fun _ _ => rfl).sl flat_ev) (show k' < n by omega)
     rw [hx] at hx'
     injection hx' with hx'
     injection hx' with r1 r2
     injection r2 with r2 r3
     subst r1 r2 r3 eA
     have ql := l11Less_calls be 0 g (off + k' * 3) f lb t x y z (wA.drewN N) e0 e1 e2 d0 d1 d2
     rw [hl] at ql
     replace ql := hide ql
     clear hx hl
     go_upto_region 4 with (first | (go_at_call 232; (with_reducible refine ql.out.mono ?_); rintro e w' ⟨rfl, N2, rfl⟩))
     obtain ⟨wq, hwq⟩ : ∃ wq, wq = wA.drewN (N + N2) := ⟨_, rfl⟩
     have u0 : wq.cell? ⟨be, 0, none⟩ = some (.int .i64 f) := by rw [hwq]; exact e0
     have u1 : wq.cell? ⟨be, 1, none⟩ = some (.int .i64 lb) := by rw [hwq]; exact e1
     have u2 : wq.cell? ⟨be, 2, none⟩ = some (.int .i64 t) := by rw [hwq]; exact e2
     have v0 : wq.cell? ⟨g, off + k' * 3, none⟩ = some (.int .i64 x) := by rw [hwq]; exact d0
     have v1 : wq.cell? ⟨g, off + k' * 3 + 1, none⟩ = some (.int .i64 y) := by rw [hwq]; exact d1
     have v2 : wq.cell? ⟨g, off + k' * 3 + 2, none⟩ = some (.int .i64 z) := by rw [hwq]; exact d2
     have hOq : Hid (Own 3 ev wq base 84 (some ⟨g, off, none⟩) n c es) := by rw [hwq]; exact hO0.out.keep fun _ _ => rfl
     have hbq : Hid (Below base w wq) := by rw [hwq]; exact hb0.out.trans (drewN_below _ _)
     have heq : Hid (wq.heap[be]? = wA.heap[be]?) := by rw [hwq]; rfl
     have hGq : Hid (w.grownBy wq (Value.slice (some ⟨g, off, none⟩) n c).ownBlock) := by rw [hwq]; exact drewN_grow hG0.out _
     have hzq : be < wq.heap.size := by rw [hwq]; exact hbe3
     rw [← hwq]
     clear d0 d1 d2 e0 e1 e2 ql
     replace hwq := hide hwq
     have hcase : (x == f) = false ∨ (f = x ∧ (y == lb) = false) ∨ (f = x ∧ lb = y ∧ (z == t) = false) := by
      by_cases a : x = f
      ·by_cases b : y = lb
       ·exact .inr (.inr ⟨a.symm, b.symm, beq_eq_false_iff_ne.2 fun c => hne3 ⟨a, b, c⟩⟩)
       ·exact .inr (.inl ⟨a.symm, beq_eq_false_iff_ne.2 b⟩)
      ·exact .inl (beq_eq_false_iff_ne.2 a)
     clear hne3
     rcases hcase with e3 | ⟨e4, e3⟩ | ⟨e4, e5, e3⟩
     rotate_left
     subst e4
     rotate_left
     subst e4 e5
     rotate_left
     all_goals
      go_quiet (fail)
      go_upto_region 6 with fail
      obtain ⟨wv, hwv⟩ : ∃ wv, wv = wq.drewN nq := ⟨_, rfl⟩
      have hOv : Hid (Own 3 ev wv base 84 (some ⟨g, off, none⟩) n c es) := by rw [hwv]; exact hOq.out.keep fun _ _ => rfl
      have hbv : Hid (Below base w wv) := by rw [hwv]; exact hbq.out.trans (drewN_below _ _)
      have hev : Hid (wv.heap[be]? = wA.heap[be]?) := by rw [hwv]; exact heq.out
      have hGv : Hid (w.grownBy wv (Value.slice (some ⟨g, off, none⟩) n c).ownBlock) := by rw [hwv]; exact drewN_grow hGq.out _
      have hzv : be < wv.heap.size := by rw [hwv]; exact hzq
      rw [← hwv]
      replace hwv := hide hwv
      clear u0 u1 u2 v0 v1 v2 e3 hzq hbq heq hOq hGq q0 q1 q2 q3
      obtain ⟨k, hk9⟩ : ∃ k, k = k' + 1 := ⟨_, rfl⟩
      have hk8 : (k' : Int) + 1 = (k : Int) := by omega
      rw [hk8]
      rw [← hk9] at hk hput
      clear hk8 hk9
    all_goals
     have hza : base ≤ (wv.alloc (.cells #[.int .i64 0, .int .i64 0, .int .i64 0] 84)).heap.size := by rw [World.size_alloc]; omega
     have hba := hide (hbv.out.alloc (show base ≤ wv.heap.size by omega) (.cells #[.int .i64 0, .int .i64 0, .int .i64 0] 84))
     go_upto_region 7 with (first | (at_builtin; (with_reducible refine wpList_app rfl (.tmp 32) (.tmp 34) rfl hE.out flat_ev rfl (hOv.out.alloc _) rfl (Sl.lit1' wv 84 ((0, 0, 0) : Ed) _ rfl 3 _ ?d0) ?d1 hza ?_); rotate_right; intro A6 c6 w6 hown6 hgr6 hb6 hat6))
     case d0 => rfl
     case d1 => omega
     obtain ⟨g6, rfl, hg6⟩ := hown6.neE (by omega)
     have hgb : g6 ≠ be := by
      rcases hat6 with e | e
      ·have := hne.out g6 (e.symm.trans rfl)
       omega
      ·have e2 : some g6 = some (wv.alloc (.cells #[.int .i64 0, .int .i64 0, .int .i64 0] 84)).heap.size := e
       injection e2 with e2
       rw [World.size_alloc] at e2
       omega
     have hg6r : (Value.slice (some ⟨g6, 0, none⟩) (n + 1) c6).ownBlock = _ ∨ w.heap.size ≤ g6 := hat6.imp id fun e => by
      have e2 : some g6 = some (wv.alloc (.cells #[.int .i64 0, .int .i64 0, .int .i64 0] 84)).heap.size := e
      injection e2 with e2
      rw [World.size_alloc] at e2
      have := hGv.out.size
      omega
     have hG6 := hide ((hGv.out.trans (World.grownBy_alloc wv _ _)).trans hgr6)
     replace hg6r := hide hg6r
     have hb7 := hide (hba.out.trans hb6)
     have he6 : Hid (w6.heap[be]? = wA.heap[be]?) := by
      show _ = _
      rw [hgr6.block be (by rw [World.size_alloc]; omega) (fun e => by have := hne.out be e.symm; omega)]
      rw [Below.heap_alloc _ _ _ hzv]
      exact hev.out
     have hS0 : Hid (Own 3 ev w6 base 84 (some ⟨g6, 0, none⟩) (n + 1) c6 (es.take n ++ ((0, 0, 0) : Ed) :: es.drop n)) := by
      show Own _ _ _ _ _ _ _ _ _
      rw [List.take_of_length_le (by omega), List.drop_eq_nil_of_le (by omega)]
      exact hown6
     clear hown6 hgr6 hb6 hat6 hOv hbv hba hza hev hGv
     go_wp2_with fail
     obtain ⟨wP, hwP⟩ : ∃ wP : World, wP = w6 := ⟨_, rfl⟩
     go_loopw [6] (fun i wr => ∃ (q : Nat) (y : Ed), k ≤ q ∧ q ≤ n ∧ i = .int .i64 (q : Nat) ∧ Hid (Own 3 ev wr base 84 (some ⟨g6, 0, none⟩) (n + 1) c6 (es.take q ++ y :: es.drop q)) ∧ Hid (Below base w wr) ∧ Hid (wr.heap[be]? = wA.heap[be]?) ∧ Hid (w.grownBy wr _)) (fun i _ => (intOf i).toNat)
     case atStart => exact ⟨n, _, hk, Nat.le_refl _, by go_num, hS0.out, hb7.out, he6.out, hG6.out⟩
     case round =>
      clear hS0 hb7 he6 hG6
      obtain ⟨q, y, hq1, hq2, rfl, hS, hb, hev, hG⟩ := hrel
      by_cases hqt : k < q
      ·obtain ⟨q', rfl⟩ : ∃ q', q = q' + 1 := ⟨q - 1, by omega⟩
       have p0 : (k : Int) < (q' : Int) + 1 := by omega
       have p1 : (0 : Int) ≤ (q' : Int) := by omega
       have p2 : (q' : Int) < (n : Int) + 1 := by omega
       have p3 : (q' : Int) + 1 < (n : Int) + 1 := by omega
       have p4 : (0 : Int) ≤ (q' : Int) + 1 := by omega
       obtain ⟨⟨x1, x2, x3⟩, hx1⟩ : ∃ x, es[q']? = some x := ⟨_, List.getElem?_eq_getElem (by omega)⟩
       obtain ⟨ga, oa, xa, ya, za, ea, -, -, -, hxa, ca0, ca1, ca2, -⟩ := SlE.get (hS.out.sl flat_ev) (show q' < n + 1 by omega)
       cases ea
       rw [Nat.zero_add] at ca0 ca1 ca2
       rw [shiftG_get hx1] at hxa
       injection hxa with hxa
       injection hxa with r1 r2
       injection r2 with r2 r3
       subst r1 r2 r3
       obtain ⟨gb, ob, xb, yb, zb, eb, -, -, -, -, cb0, cb1, cb2, fb0, fb1, fb2⟩ := SlE.get (hS.out.sl flat_ev) (show q' + 1 < n + 1 by omega)
       cases eb
       rw [Nat.zero_add] at cb0 cb1 cb2 fb0 fb1 fb2
       have hset := hS.out.setE (q' + 1) x1 x2 x3
       rw [shiftG_set hx1] at hset
       replace hset := hide hset
       have hbs := hide (((hb.out.setCell (p := ⟨g6, (q' + 1) * 3, none⟩) hg6 (.int .i64 x1)).setCell (p := ⟨g6, (q' + 1) * 3 + 1, none⟩) hg6 (.int .i64 x2)).setCell (p := ⟨g6, (q' + 1) * 3 + 2, none⟩) hg6 (.int .i64 x3))
       have hes : Hid ((((wr.setCell ⟨g6, (q' + 1) * 3, none⟩ (.int .i64 x1)).setCell ⟨g6, (q' + 1) * 3 + 1, none⟩ (.int .i64 x2)).setCell ⟨g6, (q' + 1) * 3 + 2, none⟩ (.int .i64 x3)).heap[be]? = wA.heap[be]?) := by
        show _ = _
        rw [Below.heap_setCell _ _ _ _ (by show be ≠ g6; omega), Below.heap_setCell _ _ _ _ (by show be ≠ g6; omega), Below.heap_setCell _ _ _ _ (by show be ≠ g6; omega)]
        exact hev.out
       have hGs := hide (setCell_grow (setCell_grow (setCell_grow hG.out (i := (q' + 1) * 3) hg6r.out (.int .i64 x1)) (i := (q' + 1) * 3 + 1) hg6r.out (.int .i64 x2)) (i := (q' + 1) * 3 + 2) hg6r.out (.int .i64 x3))
       clear hx1
       go_wp2_with fail
       go_roundw
       case rel => exact ⟨q', (x1, x2, x3), by omega, by omega, by go_num, hset.out, hbs.out, hes.out, hGs.out⟩
       case measure => simp [intOf]
      ·obtain rfl : q = k := by omega
       have p0 : ¬ (q : Int) < (q : Int) := by omega
       have p1 : (0 : Int) ≤ (q : Int) := by omega
       have p2 : (q : Int) < (n : Int) + 1 := by omega
       obtain ⟨e0, e1, e2⟩ := hkeep.out wr hev.out
       obtain ⟨gb, ob, xb, yb, zb, eb, -, -, -, -, cb0, cb1, cb2, fb0, fb1, fb2⟩ := SlE.get (hS.out.sl flat_ev) (show q < n + 1 by omega)
       cases eb
       rw [Nat.zero_add] at cb0 cb1 cb2 fb0 fb1 fb2
       have hset := hS.out.setE q f lb t
       rw [shiftG_end (by omega)] at hset
       replace hset := hide hset
       have hbs := hide (((hb.out.setCell (p := ⟨g6, q * 3, none⟩) hg6 (.int .i64 f)).setCell (p := ⟨g6, q * 3 + 1, none⟩) hg6 (.int .i64 lb)).setCell (p := ⟨g6, q * 3 + 2, none⟩) hg6 (.int .i64 t))
       have hGs := hide (setCell_grow (setCell_grow (setCell_grow hG.out (i := q * 3) hg6r.out (.int .i64 f)) (i := q * 3 + 1) hg6r.out (.int .i64 lb)) (i := q * 3 + 2) hg6r.out (.int .i64 t))
       go_wp2_with fail
       go_ret
       exact ⟨_, _, _, rfl, _, hset.out, hput.out, hbs.out, hGs.out, hg6r.out.imp id fun h => ⟨_, rfl, h⟩⟩

end Go.Proofs.YtnhomkmfbngmgaaGreatDoor

namespace Go.Proofs.YtnhomkmfbngmgaaGreatDoor
open Go.ChangeShapes Go.WideShapes Go.ChangeAt Go.RowKit
set_option linter.unusedVariables false
set_option linter.unusedSimpArgs false

def MadeE (ts : List ByteArray) (es es2 : List Ed) : Prop := RisE es2 ∧ es2.length ≤ es.length ∧ ∀ x, x ∈ es2 → ∃ e, e ∈ es ∧ x.1 = e.1 ∧ x.2.2 = e.2.2 ∧ 0 ≤ x.2.1 ∧ x.2.1 < ((joiF ts).length : Int)
theorem MadeE.start (ts : List ByteArray) : MadeE ts [] [] := ⟨List.Pairwise.nil, Nat.le_refl _, fun x hx => absurd hx List.not_mem_nil⟩
theorem MadeE.put {ts : List ByteArray} {es es2 es3 : List Ed} {k : Nat} {f lb t i : Int} (h : MadeE ts (es.take k) es2) (hk : es[k]? = some (f, lb, t)) (hi : 0 ≤ i ∧ i < ((joiF ts).length : Int)) (hp : PutO es2 (f, i, t) es3) : MadeE ts (es.take (k + 1)) es3 := by
 have hkl := (List.getElem?_eq_some_iff.1 hk).1
 have e : es.take (k + 1) = es.take k ++ [(f, lb, t)] := by rw [List.take_add_one, hk]; rfl
 refine ⟨hp.1, ?_, fun x hx => ?_⟩
 ·have h1 := hp.2.2
  have h2 := h.2.1
  rw [e, List.length_append]
  simp only [List.length_singleton]
  omega
 ·rcases (hp.2.1 x).1 hx with rfl | hx
  ·exact ⟨(f, lb, t), by rw [e]; exact List.mem_append_right _ (List.mem_singleton.2 rfl), rfl, rfl, hi⟩
  ·obtain ⟨y, hy, r⟩ := h.2.2 x hx
   exact ⟨y, by rw [e]; exact List.mem_append_left _ hy, r⟩
theorem joi_mem {ts : List ByteArray} {s : ByteArray} (h : s ∈ ts) : s ∈ joiF ts := by
 unfold joiF
 refine List.mem_map.2 ⟨toL s, ?_, ofL_toL s⟩
 rw [compactL_mem, List.mem_mergeSort]
 exact List.mem_map_of_mem (List.mem_cons_of_mem _ h)
theorem joi_find {ts : List ByteArray} {s : ByteArray} {i : Int} (h : s ∈ ts) (hf : FindI (joiF ts) s i) : 0 ≤ i ∧ i < ((joiF ts).length : Int) := by
 rcases hf with ⟨-, h2⟩ | ⟨k, rfl, h2, -⟩
 ·rw [any_of_mem.2 (joi_mem h)] at h2; cases h2
 ·have := (List.getElem?_eq_some_iff.1 h2).1
  omega

theorem results_cell1 {fn : Func} {p : Tmp} {ty : TypeId} (h : fn.results = #[.cell p ty]) (tmps : Array Value) (P : Program) (w : World) :
  (results fn tmps).run P w = ((asAddr (tmps.getD p undef)).run P w).andThen fun a w₁ => (loadVar ty a).run P w₁ := by
 simp only [results, h]
 simp [Sem.run_bind, Result.andThen]
set_option maxRecDepth 100000 in
set_option maxHeartbeats 3200000 in
theorem l11Make_calls (st ini : Int) (A : Option Addr) (n c : Nat) (ts : List ByteArray) (B : Option Addr) (m d : Nat) (es : List Ed) (w : World) (hs : SlS w 0 w.heap.size A n ts) (he : SlE w 0 w.heap.size B m es) (hl : ∀ e, e ∈ es → 0 ≤ e.2.1 ∧ e.2.1 < (n : Int)) (hn : n ≤ 99999) (hm : m ≤ 99999) :
  Calls Tryz.prog 94 #[.int .i64 st, .int .i64 ini, .slice A n c, .slice B m d] w fun e w' => ∃ A2 n2 c2 B2 m2 d2 es2, e = .returned (.agg #[.int .i64 st, .int .i64 ini, .slice A2 n2 c2, .slice B2 m2 d2]) ∧ SlS w' w.heap.size w'.heap.size A2 n2 (joiF ts) ∧ SlE w' w.heap.size w'.heap.size B2 m2 es2 ∧ MadeE ts es es2 ∧ Below w.heap.size w w' := by
 have hB0 := hide ((Below.refl w.heap.size w).alloc (Nat.le_refl _) (.cells #[.int .i64 0, .int .i64 0, .slice none 0 0, .slice none 0 0] 27))
 have k8 := heap_alloc_new w (.cells #[.int .i64 0, .int .i64 0, .slice none 0 0, .slice none 0 0] 27)
 have hz1 : w.heap.size < (w.alloc (.cells #[.int .i64 0, .int .i64 0, .slice none 0 0, .slice none 0 0] 27)).heap.size := by simp
 obtain ⟨w1, hw1⟩ : ∃ w1, w1 = w.alloc (.cells #[.int .i64 0, .int .i64 0, .slice none 0 0, .slice none 0 0] 27) := ⟨_, rfl⟩
 rw [← hw1] at hB0 k8 hz1
 have qj := hide (l11Join_calls A n c ts w1 0 w.heap.size (hs.below hB0.out (.inl (Nat.le_refl _))) (by omega) (by omega))
 have hlen := hide he.len
 have hlenS := hide hs.len
 replace hs := hide hs
 replace he := hide he
 replace hl := hide hl
 replace k8 := hide k8
 go_enter Tryz.func94, Tryz.ntmps94
 go_upto_region 1 with fail
 rw [← hw1]
 replace hw1 := hide hw1
 go_wp2_with fail
 refine qj.out.mono ?_
 rintro e w2 ⟨A2, n2, c2, rfl, hJ, hb2⟩
 have hz2 := hb2.size
 have hO0 := (Own.made (α := Ed) (size := 3) (f := ev) w2 84 (Nat.le_refl _)).alloc (.cells #[.int .i64 st, .int .i64 ini, .slice A2 n2 c2, .slice (some ⟨w2.heap.size, 0, none⟩) 0 0] 27)
 have hbo := heap_alloc_new (w2.alloc (.cells #[] 84)) (.cells #[.int .i64 st, .int .i64 ini, .slice A2 n2 c2, .slice (some ⟨w2.heap.size, 0, none⟩) 0 0] 27)
 rw [World.size_alloc] at hbo
 have hbL := ((Below.refl w2.heap.size w2).alloc (Nat.le_refl _) (.cells #[] 84)).alloc (by rw [World.size_alloc]; omega) (.cells #[.int .i64 st, .int .i64 ini, .slice A2 n2 c2, .slice (some ⟨w2.heap.size, 0, none⟩) 0 0] 27)
 obtain ⟨wL, hwL⟩ : ∃ wL, wL = (w2.alloc (.cells #[] 84)).alloc (.cells #[.int .i64 st, .int .i64 ini, .slice A2 n2 c2, .slice (some ⟨w2.heap.size, 0, none⟩) 0 0] 27) := ⟨_, rfl⟩
 rw [← hwL] at hO0 hbo hbL
 replace hO0 := hide hO0
 replace hbo := hide hbo
 replace hbL := hide hbL
 replace hJ := hide hJ
 replace hb2 := hide hb2
 obtain ⟨bo, hboe⟩ : ∃ bo, bo = w2.heap.size + 1 := ⟨_, rfl⟩
 rw [← hboe] at hbo
 have hJs := hide (hJ.out.sl flat_strv)
 have hjn := hide hJ.out.len
 have hJlen : Hid ((joiF ts).length ≤ ts.length + 1) := by
  show _ ≤ _
  unfold joiF
  rw [List.length_map]
  refine Nat.le_trans (Go.Lib.compact_length_le _) ?_
  rw [List.length_mergeSort, List.length_map, List.length_cons]
  exact Nat.le_refl _
 clear qj
 go_upto_region 3 with fail
 rw [← hwL, ← hboe]
 replace hwL := hide hwL
 have hbow : w2.heap.size < bo := by omega
 replace hboe := hide hboe
 go_loopw [10] (fun i wr => ∃ (k : Nat) (E : Option Addr) (mm cc : Nat) (es1 : List Ed), k ≤ m ∧ i = .int .i64 (k : Nat) ∧ Hid (wr.heap[bo]? = some (.cells #[.int .i64 st, .int .i64 ini, .slice A2 n2 c2, .slice E mm cc] 27 (0, 0))) ∧ Hid (Own 3 ev wr w2.heap.size 84 E mm cc es1) ∧ Hid (MadeE ts (es.take k) es1) ∧ Hid (∀ g, (Value.slice E mm cc).ownBlock = some g → g ≠ bo) ∧ Hid (Below w2.heap.size w2 wr)) (fun i _ => m - (intOf i).toNat)
 case atStart => exact ⟨0, _, 0, 0, [], Nat.zero_le _, rfl, hbo.out, hO0.out, MadeE.start ts, (fun g e => by cases e; exact Nat.ne_of_lt hbow), hbL.out⟩
 case round =>
  clear hO0 hbo hbL
  obtain ⟨k, E, mm, cc, es1, hk, rfl, hbo, hO, hM, hne, hb⟩ := hrel
  have hb1 := hide (hb2.out.trans (hb.out.mono hz2))
  have hbw := hide (hB0.out.trans (hb1.out.mono (by omega)))
  by_cases hlt : k < m
  ·have k0 : (0 : Int) ≤ (k : Int) := by omega
   have k1 : (k : Int) < (m : Int) := by omega
   obtain ⟨gb, ob, f, lb, t, rfl, -, -, hgb, hx, x0, x1, x2, -⟩ := SlE.get (he.out.below hbw.out (.inl (Nat.le_refl _))) hlt
   obtain ⟨hl0, hl1⟩ := hl.out _ (List.mem_of_getElem? hx)
   (try dsimp only at hl0 hl1)
   obtain ⟨l, rfl⟩ : ∃ l : Nat, lb = (l : Int) := ⟨lb.toNat, by omega⟩
   have hbx := heap_alloc_new wr (.cells #[.int .i64 f, .int .i64 (l : Int), .int .i64 t] 84)
   obtain ⟨wE, hwE⟩ : ∃ wE, wE = wr.alloc (.cells #[.int .i64 f, .int .i64 (l : Int), .int .i64 t] 84) := ⟨_, rfl⟩
   rw [← hwE] at hbx
   obtain ⟨be, hbe⟩ : ∃ be, be = wr.heap.size := ⟨_, rfl⟩
   rw [← hbe] at hbx
   have hBE := hide ((hb.out.alloc hb.out.size (.cells #[.int .i64 f, .int .i64 (l : Int), .int .i64 t] 84)))
   rw [← hwE] at hBE
   have hbwE := hB0.out.trans ((hb2.out.trans (hBE.out.mono hz2)).mono (by omega))
   obtain ⟨bA, oA, s, rfl, -, -, -, hts, cs, -⟩ := SlS.get (hs.out.below hbwE (.inl (Nat.le_refl _))) (show l < n by omega)
   have hbol : bo < wr.heap.size := (Array.getElem?_eq_some_iff.1 hbo.out).1
   have hboE : wE.heap[bo]? = _ := ((show wE.heap[bo]? = wr.heap[bo]? by rw [hwE]; exact Below.heap_alloc _ _ _ hbol)).trans hbo.out
   have c2' : wE.cell? ⟨bo, 2, none⟩ = some (.slice A2 n2 c2) := (cell_of_row _ _ 2 _ _ (0, 0) hboE).trans rfl
   have y1 : wE.cell? ⟨be, 1, none⟩ = some (.int .i64 (l : Int)) := (cell_of_row _ _ 1 _ _ (0, 0) hbx).trans rfl
   have z1 : wE.frozen? ⟨be, 1, none⟩ = false := frozen_of_row _ _ 1 _ _ hbx
   have hbel : be < wE.heap.size := (Array.getElem?_eq_some_iff.1 hbx).1
   have l0 : (0 : Int) ≤ (l : Int) := by omega
   have l1 : (l : Int) < (n : Int) := by omega
   have qf := hide (l11Find_calls s A2 n2 c2 (joiF ts) wE.drew _ _ ((hJs.out.below hBE.out (.inl (Nat.le_refl _))).drewN 1) (by
    have h1 := hjn.out
    have h2 := hJlen.out
    have h3 := hlenS.out
    omega))
   have hsm := hide (List.mem_of_getElem? hts)
   replace hx := hide hx
   clear hts
   go_upto_region 6 with fail
   rw [← hwE, ← hbe]
   replace hwE := hide hwE
   replace hbe := hide hbe
   replace hbx := hide hbx
   replace hboE := hide hboE
   clear x0 x1 x2
   go_still_tail 7, (by kernel_rfl)
   change wpList _ _ _ _ _ wE.drew
   go_upto_region 7 with (first | (go_at_call 174; (with_reducible refine qf.out.mono ?_); rintro e w5 ⟨i, rfl, hfi, rfl⟩))
   obtain ⟨wF, hwG⟩ : ∃ wF, wF = (wE.setCell ⟨be, 1, none⟩ (.int .i64 i)).drew := ⟨_, rfl⟩
   have hwF : wF = wE.drew.setCell ⟨be, 1, none⟩ (.int .i64 i) := by
    rw [hwG]
    first | rfl | simp
   have hbxF : Hid (wF.heap[be]? = some (.cells #[.int .i64 f, .int .i64 i, .int .i64 t] 84 (0, 0))) := by
    show _ = _
    rw [hwF]
    exact heap_setCell_same wE.drew be 1 _ _ (.int .i64 i) hbx.out
   have hsame : ∀ q, q ≠ be → wF.heap[q]? = wE.heap[q]? := fun q hq => by rw [hwF]; exact Below.heap_setCell _ _ _ _ hq
   have hbF : Hid (Below w2.heap.size w2 wF) := by
    show Below _ _ _
    rw [hwF]
    have h0 : Below w2.heap.size w2 wE.drew := hBE.out.trans ⟨rfl, rfl, rfl, Nat.le_refl _, fun _ _ => rfl⟩
    exact h0.setCell (p := ⟨be, 1, none⟩) (by show w2.heap.size ≤ be; rw [hbe.out]; exact hb.out.size) (.int .i64 i)
   have hEbe : ∀ q, (Value.slice E mm cc).ownBlock = some q → q < be := fun q e => by rw [hbe.out]; exact (hO.out.lt q e).2
   have hOF := hO.out.keep (w' := wF) fun q e => (hsame q (by have := hEbe q e; omega)).trans (by rw [hwE.out]; exact Below.heap_alloc _ _ _ (hO.out.lt q e).2)
   have hbne : bo ≠ be := by rw [hbe.out]; omega
   have hboF : wF.heap[bo]? = _ := (hsame bo hbne).trans hboE.out
   have hboFl : bo < wF.heap.size := (Array.getElem?_eq_some_iff.1 hboF).1
   have hM1 := hM.out.2.1
   rw [List.length_take] at hM1
   have hmm := hO.out.len
   have qp := hide (l11Put_calls E mm cc es1 f i t wF w2.heap.size hOF hM.out.1 (by omega) hbF.out.size)
   have c3' : wF.cell? ⟨bo, 3, none⟩ = some (.slice E mm cc) := (cell_of_row _ _ 3 _ _ (0, 0) hboF).trans rfl
   have b0 : wF.cell? ⟨be, 0, none⟩ = some (.int .i64 f) := (cell_of_row _ _ 0 _ _ (0, 0) hbxF.out).trans rfl
   have b1 : wF.cell? ⟨be, 1, none⟩ = some (.int .i64 i) := (cell_of_row _ _ 1 _ _ (0, 0) hbxF.out).trans rfl
   have b2 : wF.cell? ⟨be, 2, none⟩ = some (.int .i64 t) := (cell_of_row _ _ 2 _ _ (0, 0) hbxF.out).trans rfl
   have hi := joi_find hsm.out hfi
   have hne2 := hide hne.out
   replace hboF := hide hboF
   rw [← hwG]
   replace hwF := hide hwF
   replace hwG := hide hwG
   clear c2' y1 z1 cs qf hOF hsame
   go_wp2_with fail
   refine qp.out.mono ?_
   rintro e w8 ⟨A8, n8, c8, es8, rfl, hO8, hP8, hb8, hG8, hr8⟩
   have hbo8 : w8.heap[bo]? = _ := (hG8.block bo hboFl (fun e => hne2.out bo e.symm rfl)).trans hboF.out
   have d3 : w8.cell? ⟨bo, 3, none⟩ = some (.slice E mm cc) := (cell_of_row _ _ 3 _ _ (0, 0) hbo8).trans rfl
   have f3 : w8.frozen? ⟨bo, 3, none⟩ = false := frozen_of_row _ _ 3 _ _ hbo8
   have hbo9 : Hid ((w8.setCell ⟨bo, 3, none⟩ (.slice A8 n8 c8)).heap[bo]? = some (.cells #[.int .i64 st, .int .i64 ini, .slice A2 n2 c2, .slice A8 n8 c8] 27 (0, 0))) := heap_setCell_same w8 bo 3 _ _ (.slice A8 n8 c8) hbo8
   have hne8 : ∀ q, (Value.slice A8 n8 c8).ownBlock = some q → q ≠ bo := fun q e => by
    rcases hr8 with h | ⟨q2, h, hq2⟩
    ·exact hne2.out q (h.symm.trans e)
    ·rw [h] at e
     injection e with e
     omega
   have hO9 := hide (hO8.keep (w' := w8.setCell ⟨bo, 3, none⟩ (.slice A8 n8 c8)) fun q e => Below.heap_setCell _ _ _ _ (hne8 q e))
   have hM9 := hide (hM.out.put hx.out hi hP8)
   have hb9 := hide ((hbF.out.trans hb8).setCell (p := ⟨bo, 3, none⟩) (Nat.le_of_lt hbow) (.slice A8 n8 c8))
   replace hne8 := hide hne8
   replace hbo8 := hide hbo8
   clear qp hO8 hP8 hb8 hG8 hr8 hx
   go_wp2_with fail
   go_roundw
   case rel => exact ⟨k + 1, A8, n8, c8, es8, by omega, by go_num, hbo9.out, hO9.out, hM9.out, hne8.out, hb9.out⟩
   case measure => simp [intOf]; omega
  ·obtain rfl : k = m := by omega
   have k1 : ¬ (k : Int) < (k : Int) := by omega
   have hMf : Hid (MadeE ts es es1) := by
    have := hM.out
    rw [List.take_of_length_le (by rw [hlen.out]; exact Nat.le_refl _)] at this
    exact this
   have h8 : wr.heap[w.heap.size]? = _ := (hb1.out.block w.heap.size hz1).trans k8.out
   have a0 : wr.cell? ⟨w.heap.size, 0, none⟩ = some (.int .i64 0) := (cell_of_row _ _ 0 _ _ (0, 0) h8).trans rfl
   have a1 : wr.cell? ⟨w.heap.size, 1, none⟩ = some (.int .i64 0) := (cell_of_row _ _ 1 _ _ (0, 0) h8).trans rfl
   have a2 : wr.cell? ⟨w.heap.size, 2, none⟩ = some (.slice none 0 0) := (cell_of_row _ _ 2 _ _ (0, 0) h8).trans rfl
   have a3 : wr.cell? ⟨w.heap.size, 3, none⟩ = some (.slice none 0 0) := (cell_of_row _ _ 3 _ _ (0, 0) h8).trans rfl
   have z0 : wr.frozen? ⟨w.heap.size, 0, none⟩ = false := frozen_of_row _ _ 0 _ _ h8
   have z1 : wr.frozen? ⟨w.heap.size, 1, none⟩ = false := frozen_of_row _ _ 1 _ _ h8
   have z2 : wr.frozen? ⟨w.heap.size, 2, none⟩ = false := frozen_of_row _ _ 2 _ _ h8
   have z3 : wr.frozen? ⟨w.heap.size, 3, none⟩ = false := frozen_of_row _ _ 3 _ _ h8
   have b0 : wr.cell? ⟨bo, 0, none⟩ = some (.int .i64 st) := (cell_of_row _ _ 0 _ _ (0, 0) hbo.out).trans rfl
   have b1 : wr.cell? ⟨bo, 1, none⟩ = some (.int .i64 ini) := (cell_of_row _ _ 1 _ _ (0, 0) hbo.out).trans rfl
   have b2 : wr.cell? ⟨bo, 2, none⟩ = some (.slice A2 n2 c2) := (cell_of_row _ _ 2 _ _ (0, 0) hbo.out).trans rfl
   have b3 : wr.cell? ⟨bo, 3, none⟩ = some (.slice E mm cc) := (cell_of_row _ _ 3 _ _ (0, 0) hbo.out).trans rfl
   have hJr := hide (hJs.out.below hb.out (.inl (Nat.le_refl _)))
   have hOr := hide (hO.out.sl flat_ev)
   replace h8 := hide h8
   clear hM
   go_wp2_with fail
   (try simp only [Exit.inBlock, Exit.then])
   refine bodyPost_ret_by (v := .agg #[.int .i64 st, .int .i64 ini, .slice A2 n2 c2, .slice E mm cc]) ?_ rfl ?_
   focus
    rw [results_cell1 rfl]
    go_simp
   obtain ⟨wZ, hwZ⟩ : ∃ wZ, wZ = ((((wr.setCell ⟨w.heap.size, 0, none⟩ (.int .i64 st)).setCell ⟨w.heap.size, 1, none⟩ (.int .i64 ini)).setCell ⟨w.heap.size, 2, none⟩ (.slice A2 n2 c2)).setCell ⟨w.heap.size, 3, none⟩ (.slice E mm cc)) := ⟨_, rfl⟩
   have hZ : ∀ q, q ≠ w.heap.size → wZ.heap[q]? = wr.heap[q]? := fun q hq => by
    rw [hwZ, Below.heap_setCell _ _ _ _ hq, Below.heap_setCell _ _ _ _ hq, Below.heap_setCell _ _ _ _ hq, Below.heap_setCell _ _ _ _ hq]
   have hZs : wZ.heap.size = wr.heap.size := by rw [hwZ]; simp
   have hZb : Below w.heap.size w wZ := by
    rw [hwZ]
    exact (((hbw.out.setCell (p := ⟨w.heap.size, 0, none⟩) (Nat.le_refl _) _).setCell (p := ⟨w.heap.size, 1, none⟩) (Nat.le_refl _) _).setCell (p := ⟨w.heap.size, 2, none⟩) (Nat.le_refl _) _).setCell (p := ⟨w.heap.size, 3, none⟩) (Nat.le_refl _) _
   rw [← hwZ]
   have hbs := hb.out.size
   have h1 : SlS wZ w.heap.size wZ.heap.size A2 n2 (joiF ts) := (Sl.keep hJr.out (by omega) fun q h1 h2 h3 => hZ q (by omega)).more (by omega) (by omega)
   have h2 : SlE wZ w.heap.size wZ.heap.size E mm es1 := (Sl.keep hOr.out (by omega) fun q h1 h2 h3 => hZ q (by omega)).more (by omega) (by omega)
   exact ⟨_, _, _, _, _, ⟨_, rfl⟩, h1, _, h2, hMf.out, hZb⟩

end Go.Proofs.YtnhomkmfbngmgaaGreatDoor
