/-
  slices.Repeat of one element. Conditions: at most 1048576 copies.
-/
import Derived.Test.YtbnneahjjcamlaaBools
import Derived.Laws.CopyOwn
import Derived.Laws.Bits64b
import Derived.StillTailTactics
import Derived.Deep.RegionLaw
import Derived.Deep.LoopGhost
namespace Go.Proofs.Ytbnneahjjcamlaa
open Go.ChangeShapes Go.WideShapes Go.ChangeAt Go.RowKit
set_option linter.unusedVariables false

set_option maxHeartbeats 800000 in
theorem mul64_one (n : Nat) (hn : n ≤ 1048576) (w : World) : Calls Try.prog 146 #[.int .u64 1, .int .u64 n] w fun e w' => e = .returned (.tuple #[.int .u64 0, .int .u64 n]) ∧ w = w' := by
  have m1 : bits .and .u64 (1 : Int) 4294967295 = 1 := bits_and_u64_nat 1 4294967295 (by omega) (by omega)
  have m2 : bits .and .u64 (n : Int) 4294967295 = n := by
    have h := bits_and_u64_nat n 4294967295 (by omega) (by omega)
    have e : n &&& 4294967295 = n := by
      rw [Nat.and_two_pow_sub_one_eq_mod n 32]
      omega
    rw [e] at h
    exact h
  have d1 : (n : Int) / 4294967296 = 0 := by omega
  have m0 : bits .and .u64 (0 : Int) 4294967295 = 0 := bits_and_u64_nat 0 4294967295 (by omega) (by omega)
  go_enter Try.func146, Try.ntmps146
  go_wp2
  go_ret2
  exact ⟨by simp [m1, m2, d1, m0], rfl⟩

theorem mul_one' (n : Nat) (hn : n ≤ 1048576) (w : World) : Calls Try.prog 134 #[.int .u64 1, .int .u64 n] w fun e w' => e = .returned (.tuple #[.int .u64 0, .int .u64 n]) ∧ w = w' := by
  have q := hide (mul64_one n hn w)
  go_enter Try.func134, Try.ntmps134
  go_wp2_with (go_at_call 146; refine q.out.mono ?_; rintro e w' ⟨rfl, rfl⟩)
  go_ret2
  exact ⟨rfl, rfl⟩

/-- A row of which the first m cells hold v, the others z. -/
def rowR (v z : Value) (m n : Nat) : List Value := List.replicate m v ++ List.replicate (n - m) z
theorem rowR_len (v z : Value) {m n : Nat} (h : m ≤ n) : (rowR v z m n).length = n := by unfold rowR; simp; omega
theorem rowR_get (v z : Value) {m n j : Nat} (h : j < m) : (rowR v z m n)[j]? = some v := by
  unfold rowR
  rw [List.getElem?_append_left (by simpa using h)]
  simp [h]
theorem rowR_splice (v z : Value) {m k n : Nat} (h : m + k ≤ n) : splice (rowR v z m n) m (List.replicate k v) = rowR v z (m + k) n := by
  unfold splice rowR
  rw [List.take_left' (by simp), List.drop_append, List.length_replicate, List.drop_replicate, List.drop_replicate, List.length_replicate]
  have e1 : m - (m + k) = 0 := by omega
  have e2 : n - m - (m + k - m) = n - (m + k) := by omega
  rw [e1, e2, List.replicate_zero, List.nil_append, ← List.append_assoc, List.replicate_append_replicate]

set_option maxHeartbeats 1600000 in
set_option maxRecDepth 100000 in
theorem repeatB_calls (A : Option Addr) (c : Nat) (b : Bool) (n : Nat) (w : World) (lo hi : Nat) (h : SlB w lo hi A 1 [b]) (hn0 : 0 < n) (hn : n ≤ 1048576) :
    Calls Try.prog 125 #[.slice A 1 c, .int .i64 n] w fun e w' => ∃ A', e = .returned (.slice A' n n) ∧ SlB w' w.heap.size w'.heap.size A' n (List.replicate n b) ∧ Below w.heap.size w w' := by
  have hmk := run_make_bool n hn
  obtain ⟨b1, o1, rfl, g1, g2, g3, hc⟩ := h.at_ (by omega)
  have c0 := (hc 0 b rfl 0 _ rfl).1
  simp only [Nat.zero_mul, Nat.add_zero] at c0
  have hsz : (Try.prog.info? 4).map (·.size) = some 1 := by kernel_rfl
  have hb0 : Below w.heap.size w (w.alloc (.cells (madeCells #[.bool false] n) 4)) := (Below.refl _ _).alloc (Nat.le_refl _) _
  have c1 := (hb0.cell (p := ⟨b1, o1, none⟩) g3).trans c0
  have hrow : (w.alloc (.cells (madeCells #[.bool false] n) 4)).heap[w.heap.size]? = some (.cells (rowR (.bool b) (.bool false) 0 n).toArray 4 (0, 0)) := by
    rw [heap_alloc_new]
    congr 2
    apply Array.ext'
    rw [toList_madeCells_one]
    simp [rowR]
  replace hrow := hide hrow
  replace hb0 := hide hb0
  replace c1 := hide c1
  replace hsz := hide hsz
  have hE := hide elem_bool
  clear hc h
  go_enter Try.func125, Try.ntmps125
  go_wp2_with (first | (go_at_call 134; (with_reducible refine (mul_one' n hn _).mono ?_); rintro e w' ⟨rfl, rfl⟩) | (with_reducible refine wpList_copy_splice rfl (.tmp 31) (.tmp 32) 36 36 rfl 4 Try.underlying36 hsz.out (some ⟨w.heap.size, 0, none⟩) (some ⟨b1, o1, none⟩) n n 1 c rfl rfl w.heap.size 0 (rowR (.bool b) (.bool false) 0 n) 4 hrow.out [.bool b] ?k1 (fun _ => ⟨rfl, ⟨b1, o1, none⟩, rfl, ?k2⟩) ?k3 ?k4 w.heap.size w hb0.out (Nat.le_refl _) ?_))
  case k1 => show 1 = min 1 n; omega
  case k2 =>
    intro j v hj
    match j, hj with
    | 0, hj => simp at hj; subst hj; simpa [Addr.add] using c1.out
  case k3 => rw [rowR_len _ _ (Nat.zero_le _)]; simp; omega
  case k4 => intro v hv; simp at hv; subst hv; rfl
  rintro w1 hr1 hb1
  have hr1' : Hid (w1.heap[w.heap.size]? = some (.cells (rowR (.bool b) (.bool false) 1 n).toArray 4 (0, 0))) := by
    have := rowR_splice (.bool b) (.bool false) (m := 0) (k := 1) (n := n) (by omega)
    rw [List.replicate_one, Nat.zero_add] at this
    show _ = _
    rw [← this]
    exact hr1.out
  clear hr1 hrow hb0 c1 hmk
  go_wp2
  go_loopg [8] n (fun N m wr => ∃ k : Nat, 1 ≤ k ∧ k ≤ n ∧ m = .int .i64 k ∧ Hid (wr.heap[w.heap.size]? = some (.cells (rowR (.bool b) (.bool false) k n).toArray 4 (0, 0))) ∧ Below w.heap.size w wr ∧ Hid (n - k ≤ N))
  case atStart => exact ⟨1, Nat.le_refl _, hn0, rfl, hr1', hb1, by show _ ≤ _; omega⟩
  case round =>
    obtain ⟨k, hk1, hk, rfl, hr, hb, hN⟩ := hrel
    clear hr1' hb1
    by_cases hlt : k < n
    · have hcut : ∀ W : World, (Instr.slice 36 (.slice (some ⟨w.heap.size, 0, none⟩) n n) (some (.int .i64 (k : Int))) none none).run Try.prog W = .ok (.slice (some ⟨w.heap.size, k, none⟩) (n - k) (n - k)) W := fun W => by
        rw [run_cut elem_bool (some ⟨w.heap.size, 0, none⟩) n n k hk W]
        unfold cutA
        rw [if_neg (by omega), Option.map_some, addr_add, Nat.zero_add, Nat.mul_one]
      have hhead : ∀ W : World, (Instr.slice 36 (.slice (some ⟨w.heap.size, 0, none⟩) n n) none (some (.int .i64 (k : Int))) none).run Try.prog W = .ok (.slice (some ⟨w.heap.size, 0, none⟩) k n) W := fun W => run_head elem_bool (some ⟨w.heap.size, 0, none⟩) n n k hk W
      have hzw := hide ((Array.getElem?_eq_some_iff.1 hr.out).1)
      have i1 : (0 : Int) ≤ (k : Int) := by omega
      have i2 : (k : Int) ≤ (n : Int) := by omega
      obtain ⟨N2, rfl⟩ : ∃ N2, gk = N2 + 1 := ⟨gk - 1, by have := hN.out; omega⟩
      have k2 : Hid (∀ j v, (List.replicate (Nat.min k (n - k)) (Value.bool b))[j]? = some v → wr.drew.cell? ((⟨w.heap.size, 0, none⟩ : Addr).add j) = some v) := by
        intro j v hj
        have hjk : j < Nat.min k (n - k) := by
          have := (List.getElem?_eq_some_iff.1 hj).1
          simpa using this
        have hjk2 : j < k := Nat.lt_of_lt_of_le hjk (Nat.min_le_left _ _)
        have hv : v = .bool b := List.eq_of_mem_replicate (List.mem_of_getElem? hj)
        subst hv
        rw [addr_add, Nat.zero_add]
        refine (cell_of_row _ _ _ _ _ (0, 0) (show wr.drew.heap[w.heap.size]? = _ from hr.out)).trans ?_
        simpa using rowR_get _ _ hjk2
      have k3 : Hid (k + (List.replicate (Nat.min k (n - k)) (Value.bool b)).length ≤ (rowR (.bool b) (.bool false) k n).length) := by
        show _ ≤ _
        rw [rowR_len _ _ hk, List.length_replicate]; have : Nat.min k (n - k) ≤ n - k := Nat.min_le_right k (n - k); omega
      have k4 : Hid (∀ v, v ∈ List.replicate (Nat.min k (n - k)) (Value.bool b) → v.oneCell' = true) := fun v hv => by rw [List.eq_of_mem_replicate hv]; rfl
      have k5 : Hid (wr.drew.heap[w.heap.size]? = some (.cells (rowR (.bool b) (.bool false) k n).toArray 4 (0, 0))) := hr.out
      have k6 := hide hb.drew
      go_wp2
      go_region_law (refine step_copy_splice (by rfl) (.tmp 41) (.tmp 44) 36 36 (by rfl) 4 Try.underlying36 hsz.out (some ⟨w.heap.size, k, none⟩) (some ⟨w.heap.size, 0, none⟩) (n - k) (n - k) k n (by go_simp) (by go_simp) w.heap.size k (rowR (.bool b) (.bool false) k n) 4 k5.out (List.replicate (Nat.min k (n - k)) (.bool b)) (List.length_replicate ..) (fun _ => ⟨rfl, ⟨w.heap.size, 0, none⟩, rfl, k2.out⟩) k3.out k4.out w.heap.size w k6.out (Nat.le_refl _) ?_; intro w2 hr2 hb2)
      have hmn : k + Nat.min k (n - k) ≤ n := by have : Nat.min k (n - k) ≤ n - k := Nat.min_le_right k (n - k); omega
      have hmp : 1 ≤ Nat.min k (n - k) := by show 1 ≤ min k (n - k); omega
      have hr2' : Hid (w2.heap[w.heap.size]? = some (.cells (rowR (.bool b) (.bool false) (k + Nat.min k (n - k)) n).toArray 4 (0, 0))) := by
        show _ = _
        rw [← rowR_splice (.bool b) (.bool false) hmn]
        exact hr2.out
      clear hr2 hcut hhead
      try simp only [List.length_replicate, goInt]
      generalize Nat.min k (n - k) = q at *
      go_wp2
      go_roundg N2
      case measure => omega
      case rel => exact ⟨k + q, by omega, hmn, by rw [IntWalk.i64_in _ (by omega)]; go_num, hr2', hb2, by show _ ≤ _; have := hN.out; omega⟩
    · have hkn : k = n := by omega
      subst hkn
      have hzw := (Array.getElem?_eq_some_iff.1 hr.out).1
      go_wp2
      go_ret
      refine ⟨_, rfl, ⟨by simp, fun _ => ⟨w.heap.size, 0, rfl, Nat.le_refl _, hzw, hzw, fun i x hx j u hu => ?_⟩⟩, hb⟩
      have hik : i < k := by
        have := (List.getElem?_eq_some_iff.1 hx).1
        simpa using this
      have hxb : x = b := List.eq_of_mem_replicate (List.mem_of_getElem? hx)
      subst hxb
      have hj : j = 0 := by
        have := (List.getElem?_eq_some_iff.1 hu).1
        simp [bv] at this
        exact this
      subst hj
      simp [bv] at hu
      subst hu
      refine ⟨(cell_of_row _ _ _ _ _ (0, 0) hr.out).trans ?_, frozen_of_row _ _ _ _ _ hr.out⟩
      have := rowR_get (.bool x) (.bool false) (m := k) (n := k) hik
      simpa using this

theorem replicate_set (n : Nat) (b : Bool) : List.replicate n b = setOf n fun _ => b := by
  refine inS_ext (by rw [setOf_len, List.length_replicate]) fun v hv => ?_
  rw [List.length_replicate] at hv
  rw [inS_setOf, inS_some (b := b) (by simp [hv])]
  simp [hv]

end Go.Proofs.Ytbnneahjjcamlaa
