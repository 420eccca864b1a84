/-
  Lists of bool in memory, slices.Repeat of one bool or number, copies of lists of numbers. Conditions: at most 1048576 elements.
-/
import Derived.Test.YtiaclddgllkgpaaGreatDoorBaseA
import Derived.Test.YtiaclddgllkgpaaGreatDoorBaseB
import Derived.Outline
import Derived.WalkSpells
import Derived.Laws.CopyOwn
import Derived.Laws.Bits64b
import Derived.StillTailTactics
import Derived.Deep.RegionLaw
import Derived.Deep.LoopGhost
namespace Go.Proofs.YtiaclddgllkgpaaGreatDoor
open Go.ChangeShapes Go.WideShapes Go.ChangeAt Go.RowKit
set_option linter.unusedVariables false
set_option linter.unusedSimpArgs false

/-- A set of vertices as a list of answers. -/
def inS (s : List Bool) (v : Nat) : Bool := s[v]?.getD false
theorem inS_some {s : List Bool} {v : Nat} {b : Bool} (h : s[v]? = some b) : inS s v = b := by unfold inS; rw [h]; rfl
theorem inS_lt {s : List Bool} {v : Nat} (h : inS s v = true) : v < s.length := by
  unfold inS at h
  cases e : s[v]? with
  | none => rw [e] at h; cases h
  | some b => exact (List.getElem?_eq_some_iff.1 e).1
theorem inS_big {s : List Bool} {v : Nat} (h : s.length ≤ v) : inS s v = false := by unfold inS; rw [List.getElem?_eq_none h]; rfl
theorem inS_get {s : List Bool} {v : Nat} (h : v < s.length) : s[v]? = some (inS s v) := by unfold inS; rw [List.getElem?_eq_getElem h]; rfl
theorem inS_set {s : List Bool} {v u : Nat} {b : Bool} (h : v < s.length) : inS (s.set v b) u = if v = u then b else inS s u := by
  unfold inS
  by_cases e : v = u
  · subst e; rw [List.getElem?_set_self h]; simp
  · rw [List.getElem?_set_ne e]; simp [e]
theorem inS_ext {s t : List Bool} (hl : s.length = t.length) (h : ∀ v, v < s.length → inS s v = inS t v) : s = t := by
  apply List.ext_getElem?
  intro i
  by_cases hi : i < s.length
  · rw [inS_get hi, inS_get (by omega), h i hi]
  · rw [List.getElem?_eq_none (by omega), List.getElem?_eq_none (by omega)]
/-- The set of those below n that are as asked. -/
def setOf (n : Nat) (p : Nat → Bool) : List Bool := (List.range n).map p
theorem setOf_len (n : Nat) (p : Nat → Bool) : (setOf n p).length = n := by simp [setOf]
theorem setOf_get {n : Nat} {p : Nat → Bool} {v : Nat} (h : v < n) : (setOf n p)[v]? = some (p v) := by simp [setOf, h]
theorem inS_setOf {n : Nat} {p : Nat → Bool} {v : Nat} : inS (setOf n p) v = (decide (v < n) && p v) := by
  by_cases h : v < n
  · rw [inS_some (setOf_get h)]; simp [h]
  · rw [inS_big (by rw [setOf_len]; omega)]; simp [h]
theorem setOf_inS {s : List Bool} {n : Nat} (h : s.length = n) : setOf n (inS s) = s := by
  subst h
  exact inS_ext (setOf_len _ _) fun v hv => by rw [setOf_len] at hv; rw [inS_setOf]; simp [hv]
theorem setOf_congr {n : Nat} {p q : Nat → Bool} (h : ∀ v, v < n → p v = q v) : setOf n p = setOf n q := by
  unfold setOf
  apply List.map_congr_left
  intro v hv
  exact h v (List.mem_range.1 hv)

/-- A bool. -/
def bv (b : Bool) : List Value := [.bool b]
abbrev SlB := Sl 1 bv
theorem flat_bv : Flat bv 1 := ⟨fun _ => rfl, fun x u h => by simp [bv] at h; subst h; rfl⟩
theorem info_bool : (Tryz.prog.info? 4).map (fun i => (i.zero, i.size, i.bytes)) = some (some (.bool false), 1, 1) := by kernel_rfl
theorem elem_bool : Elem Tryz.prog 132 4 1 1 := Elem.of Tryz.underlying132 info_bool rfl (by omega) (by omega)
theorem elem_int64 : Elem Tryz.prog 26 2 1 8 := Elem.of Tryz.underlying26 info_int64 rfl (by omega) (by omega)

section
variable {w w' : World} {lo hi n : Nat} {A : Option Addr}
theorem SlB.get {l : List Bool} (h : SlB w lo hi A n l) {k : Nat} (hk : k < n) :
    ∃ b off, A = some ⟨b, off, none⟩ ∧ lo ≤ b ∧ b < hi ∧ b < w.heap.size ∧ l[k]? = some (inS l k) ∧ w.cell? ⟨b, off + k, none⟩ = some (.bool (inS l k)) ∧ w.frozen? ⟨b, off + k, none⟩ = false := by
  obtain ⟨b, off, e, g1, g2, g3, hc⟩ := h.at_ (by omega)
  have hl : k < l.length := by rw [h.len]; exact hk
  have h0 := hc k (inS l k) (inS_get hl) 0 _ rfl
  simp only [Nat.mul_one, Nat.add_zero] at h0
  exact ⟨b, off, e, g1, g2, g3, inS_get hl, h0.1, h0.2⟩
theorem SlB.put {b off : Nat} {l : List Bool} (h : SlB w lo hi (some ⟨b, off, none⟩) n l) {k : Nat} (hk : k < n) (x : Bool) : SlB (w.setCell ⟨b, off + k, none⟩ (.bool x)) lo hi (some ⟨b, off, none⟩) n (l.set k x) := by
  have := h.putN hk (fun _ => rfl) x
  simpa [putCells, bv] using this
theorem SlI.put' {b off : Nat} {l : List Int} (h : SlI w lo hi (some ⟨b, off, none⟩) n l) {k : Nat} (hk : k < n) (x : Int) : SlI (w.setCell ⟨b, off + k, none⟩ (.int .i64 x)) lo hi (some ⟨b, off, none⟩) n (l.set k x) := h.put hk x
end

/-- Made by make([]bool, n). -/
theorem SlB.made (w : World) (n : Nat) : SlB (w.alloc (.cells (madeCells #[.bool false] n) 4)) w.heap.size (w.heap.size + 1) (some ⟨w.heap.size, 0, none⟩) n (setOf n fun _ => false) := by
  refine ⟨setOf_len _ _, fun hn => ⟨w.heap.size, 0, rfl, Nat.le_refl _, by omega, by simp, fun k x hx j u hu => ?_⟩⟩
  have hk : k < n := by
    have := (List.getElem?_eq_some_iff.1 hx).1
    rwa [setOf_len] at this
  rw [setOf_get hk] at hx
  cases hx
  have hj : j = 0 := by
    have := (List.getElem?_eq_some_iff.1 hu).1
    simp [bv] at this
    exact this
  subst hj
  simp [bv] at hu
  subst hu
  have hg := heap_alloc_new w (.cells (madeCells #[.bool false] n) 4)
  refine ⟨(cell_of_row _ _ _ _ _ (0, 0) hg).trans ?_, frozen_of_row _ _ _ _ _ hg⟩
  simp [madeCells, Value.cells, hk, Nat.mod_one]

theorem run_make_bool (n : Nat) (hn : n ≤ 1048576) (W : World) : (Instr.makeSlice 132 (.int .i64 (n : Int)) (.int .i64 (n : Int))).run Tryz.prog W = .ok (.slice (some ⟨W.heap.size, 0, none⟩) n n) (W.alloc (.cells (madeCells #[.bool false] n) 4)) := by
  obtain ⟨i0, hi0, hz0, hz1, hz2⟩ := info_parts info_bool
  have h := make_row (P := Tryz.prog) 132 4 i0 _ _ n Tryz.underlying132 hi0 hz0 hz1 (by rw [hz2]; omega) (by omega) W
  rw [Nat.mul_one] at h
  exact h

/-- A list of which the first k places are filled. -/
def intK (n k : Nat) (p : Nat → Int) : List Int := (List.range n).map fun v => if v < k then p v else 0
theorem intK_len (n k : Nat) (p : Nat → Int) : (intK n k p).length = n := by simp [intK]
theorem intK_all (n : Nat) (p : Nat → Int) : intK n n p = (List.range n).map p := by
  unfold intK
  apply List.map_congr_left
  intro v hv
  rw [if_pos (List.mem_range.1 hv)]
theorem intK_step {n k : Nat} {p : Nat → Int} (hk : k < n) : (intK n k p).set k (p k) = intK n (k + 1) p := by
  apply List.ext_getElem?
  intro i
  by_cases e : k = i
  · subst e
    rw [List.getElem?_set_self (by rw [intK_len]; exact hk)]
    simp [intK, hk]
  · rw [List.getElem?_set_ne e]
    by_cases hi : i < n
    · simp only [intK, List.getElem?_map, List.getElem?_range hi, Option.map_some]
      have : (i < k) ↔ (i < k + 1) := by omega
      simp [this]
    · rw [List.getElem?_eq_none (by rw [intK_len]; omega), List.getElem?_eq_none (by rw [intK_len]; omega)]
theorem run_make_int (n : Nat) (hn : n ≤ 1048576) (W : World) : (Instr.makeSlice 26 (.int .i64 (n : Int)) (.int .i64 (n : Int))).run Tryz.prog W = .ok (.slice (some ⟨W.heap.size, 0, none⟩) n n) (W.alloc (.cells (madeCells #[.int .i64 0] n) 2)) := by
  obtain ⟨i0, hi0, hz0, hz1, hz2⟩ := info_parts info_int64
  have h := make_row (P := Tryz.prog) 26 2 i0 _ _ n Tryz.underlying26 hi0 hz0 hz1 (by rw [hz2]; omega) (by omega) W
  rw [Nat.mul_one] at h
  exact h
theorem SlI.made (w : World) (n : Nat) (p : Nat → Int) : SlI (w.alloc (.cells (madeCells #[.int .i64 0] n) 2)) w.heap.size (w.heap.size + 1) (some ⟨w.heap.size, 0, none⟩) n (intK n 0 p) := by
  refine ⟨intK_len _ _ _, fun hn => ⟨w.heap.size, 0, rfl, Nat.le_refl _, by omega, by simp, fun k x hx j u hu => ?_⟩⟩
  have hk : k < n := by
    have := (List.getElem?_eq_some_iff.1 hx).1
    rwa [intK_len] at this
  have hx0 : x = 0 := by
    simp only [intK, List.getElem?_map, List.getElem?_range hk, Option.map_some] at hx
    simp at hx
    exact hx.symm
  subst hx0
  have hj : j = 0 := by
    have := (List.getElem?_eq_some_iff.1 hu).1
    simp [iv] at this
    exact this
  subst hj
  simp [iv] at hu
  subst hu
  have hg := heap_alloc_new w (.cells (madeCells #[.int .i64 0] n) 2)
  refine ⟨(cell_of_row _ _ _ _ _ (0, 0) hg).trans ?_, frozen_of_row _ _ _ _ _ hg⟩
  simp [madeCells, hk, Nat.mod_one]

set_option maxHeartbeats 800000 in
theorem mul64_one (n : Nat) (hn : n ≤ 1048576) (w : World) : Calls Tryz.prog 198 #[.int .u64 1, .int .u64 n] w fun e w' => e = .returned (.tuple #[.int .u64 0, .int .u64 n]) ∧ w = w' := by
  have m1 : bits .and .u64 (1 : Int) 4294967295 = 1 := bits_and_u64_nat 1 4294967295 (by omega) (by omega)
  have m2 : bits .and .u64 (n : Int) 4294967295 = n := by
    have h := bits_and_u64_nat n 4294967295 (by omega) (by omega)
    have e : n &&& 4294967295 = n := by
      rw [Nat.and_two_pow_sub_one_eq_mod n 32]
      omega
    rw [e] at h
    exact h
  have d1 : (n : Int) / 4294967296 = 0 := by omega
  have m0 : bits .and .u64 (0 : Int) 4294967295 = 0 := bits_and_u64_nat 0 4294967295 (by omega) (by omega)
  go_enter Tryz.func198, Tryz.ntmps198
  go_wp2
  go_ret2
  exact ⟨by simp [m1, m2, d1, m0], rfl⟩

theorem mul_one' (n : Nat) (hn : n ≤ 1048576) (w : World) : Calls Tryz.prog 159 #[.int .u64 1, .int .u64 n] w fun e w' => e = .returned (.tuple #[.int .u64 0, .int .u64 n]) ∧ w = w' := by
  have q := hide (mul64_one n hn w)
  go_enter Tryz.func159, Tryz.ntmps159
  go_wp2_with (go_at_call 198; refine q.out.mono ?_; rintro e w' ⟨rfl, rfl⟩)
  go_ret2
  exact ⟨rfl, rfl⟩

/-- A row of which the first m cells hold v, the others z. -/
def rowR (v z : Value) (m n : Nat) : List Value := List.replicate m v ++ List.replicate (n - m) z
theorem rowR_len (v z : Value) {m n : Nat} (h : m ≤ n) : (rowR v z m n).length = n := by unfold rowR; simp; omega
theorem rowR_get (v z : Value) {m n j : Nat} (h : j < m) : (rowR v z m n)[j]? = some v := by
  unfold rowR
  rw [List.getElem?_append_left (by simpa using h)]
  simp [h]
theorem rowR_splice (v z : Value) {m k n : Nat} (h : m + k ≤ n) : splice (rowR v z m n) m (List.replicate k v) = rowR v z (m + k) n := by
  unfold splice rowR
  rw [List.take_left' (by simp), List.drop_append, List.length_replicate, List.drop_replicate, List.drop_replicate, List.length_replicate]
  have e1 : m - (m + k) = 0 := by omega
  have e2 : n - m - (m + k - m) = n - (m + k) := by omega
  rw [e1, e2, List.replicate_zero, List.nil_append, ← List.append_assoc, List.replicate_append_replicate]

set_option maxHeartbeats 1600000 in
set_option maxRecDepth 100000 in
theorem repeatB_calls (A : Option Addr) (c : Nat) (b : Bool) (n : Nat) (w : World) (lo hi : Nat) (h : SlB w lo hi A 1 [b]) (hn0 : 0 < n) (hn : n ≤ 1048576) :
    Calls Tryz.prog 212 #[.slice A 1 c, .int .i64 n] w fun e w' => ∃ A', e = .returned (.slice A' n n) ∧ SlB w' w.heap.size w'.heap.size A' n (List.replicate n b) ∧ Below w.heap.size w w' := by
  have hmk := run_make_bool n hn
  obtain ⟨b1, o1, rfl, g1, g2, g3, hc⟩ := h.at_ (by omega)
  have c0 := (hc 0 b rfl 0 _ rfl).1
  simp only [Nat.zero_mul, Nat.add_zero] at c0
  have hsz : (Tryz.prog.info? 4).map (·.size) = some 1 := by kernel_rfl
  have hb0 : Below w.heap.size w (w.alloc (.cells (madeCells #[.bool false] n) 4)) := (Below.refl _ _).alloc (Nat.le_refl _) _
  have c1 := (hb0.cell (p := ⟨b1, o1, none⟩) g3).trans c0
  have hrow : (w.alloc (.cells (madeCells #[.bool false] n) 4)).heap[w.heap.size]? = some (.cells (rowR (.bool b) (.bool false) 0 n).toArray 4 (0, 0)) := by
    rw [heap_alloc_new]
    congr 2
    apply Array.ext'
    rw [toList_madeCells_one]
    simp [rowR]
  replace hrow := hide hrow
  replace hb0 := hide hb0
  replace c1 := hide c1
  replace hsz := hide hsz
  have hE := hide elem_bool
  clear hc h
  go_enter Tryz.func212, Tryz.ntmps212
  go_wp2_with (first | (go_at_call 159; (with_reducible refine (mul_one' n hn _).mono ?_); rintro e w' ⟨rfl, rfl⟩) | (with_reducible refine wpList_copy_splice rfl (.tmp 31) (.tmp 32) 132 132 rfl 4 Tryz.underlying132 hsz.out (some ⟨w.heap.size, 0, none⟩) (some ⟨b1, o1, none⟩) n n 1 c rfl rfl w.heap.size 0 (rowR (.bool b) (.bool false) 0 n) 4 hrow.out [.bool b] ?k1 (fun _ => ⟨rfl, ⟨b1, o1, none⟩, rfl, ?k2⟩) ?k3 ?k4 w.heap.size w hb0.out (Nat.le_refl _) ?_))
  case k1 => show 1 = min 1 n; omega
  case k2 =>
    intro j v hj
    match j, hj with
    | 0, hj => simp at hj; subst hj; simpa [Addr.add] using c1.out
  case k3 => rw [rowR_len _ _ (Nat.zero_le _)]; simp; omega
  case k4 => intro v hv; simp at hv; subst hv; rfl
  rintro w1 hr1 hb1
  have hr1' : Hid (w1.heap[w.heap.size]? = some (.cells (rowR (.bool b) (.bool false) 1 n).toArray 4 (0, 0))) := by
    have := rowR_splice (.bool b) (.bool false) (m := 0) (k := 1) (n := n) (by omega)
    rw [List.replicate_one, Nat.zero_add] at this
    show _ = _
    rw [← this]
    exact hr1.out
  clear hr1 hrow hb0 c1 hmk
  go_wp2
  go_loopg [8] n (fun N m wr => ∃ k : Nat, 1 ≤ k ∧ k ≤ n ∧ m = .int .i64 k ∧ Hid (wr.heap[w.heap.size]? = some (.cells (rowR (.bool b) (.bool false) k n).toArray 4 (0, 0))) ∧ Below w.heap.size w wr ∧ Hid (n - k ≤ N))
  case atStart => exact ⟨1, Nat.le_refl _, hn0, rfl, hr1', hb1, by show _ ≤ _; omega⟩
  case round =>
    obtain ⟨k, hk1, hk, rfl, hr, hb, hN⟩ := hrel
    clear hr1' hb1
    by_cases hlt : k < n
    · have hcut : ∀ W : World, (Instr.slice 132 (.slice (some ⟨w.heap.size, 0, none⟩) n n) (some (.int .i64 (k : Int))) none none).run Tryz.prog W = .ok (.slice (some ⟨w.heap.size, k, none⟩) (n - k) (n - k)) W := fun W => by
        rw [run_cut elem_bool (some ⟨w.heap.size, 0, none⟩) n n k hk W]
        unfold cutA
        rw [if_neg (by omega), Option.map_some, addr_add, Nat.zero_add, Nat.mul_one]
      have hhead : ∀ W : World, (Instr.slice 132 (.slice (some ⟨w.heap.size, 0, none⟩) n n) none (some (.int .i64 (k : Int))) none).run Tryz.prog W = .ok (.slice (some ⟨w.heap.size, 0, none⟩) k n) W := fun W => run_head elem_bool (some ⟨w.heap.size, 0, none⟩) n n k hk W
      have hzw := hide ((Array.getElem?_eq_some_iff.1 hr.out).1)
      have i1 : (0 : Int) ≤ (k : Int) := by omega
      have i2 : (k : Int) ≤ (n : Int) := by omega
      obtain ⟨N2, rfl⟩ : ∃ N2, gk = N2 + 1 := ⟨gk - 1, by have := hN.out; omega⟩
      have k2 : Hid (∀ j v, (List.replicate (Nat.min k (n - k)) (Value.bool b))[j]? = some v → wr.drew.cell? ((⟨w.heap.size, 0, none⟩ : Addr).add j) = some v) := by
        intro j v hj
        have hjk : j < Nat.min k (n - k) := by
          have := (List.getElem?_eq_some_iff.1 hj).1
          simpa using this
        have hjk2 : j < k := Nat.lt_of_lt_of_le hjk (Nat.min_le_left _ _)
        have hv : v = .bool b := List.eq_of_mem_replicate (List.mem_of_getElem? hj)
        subst hv
        rw [addr_add, Nat.zero_add]
        refine (cell_of_row _ _ _ _ _ (0, 0) (show wr.drew.heap[w.heap.size]? = _ from hr.out)).trans ?_
        simpa using rowR_get _ _ hjk2
      have k3 : Hid (k + (List.replicate (Nat.min k (n - k)) (Value.bool b)).length ≤ (rowR (.bool b) (.bool false) k n).length) := by
        show _ ≤ _
        rw [rowR_len _ _ hk, List.length_replicate]; have : Nat.min k (n - k) ≤ n - k := Nat.min_le_right k (n - k); omega
      have k4 : Hid (∀ v, v ∈ List.replicate (Nat.min k (n - k)) (Value.bool b) → v.oneCell' = true) := fun v hv => by rw [List.eq_of_mem_replicate hv]; rfl
      have k5 : Hid (wr.drew.heap[w.heap.size]? = some (.cells (rowR (.bool b) (.bool false) k n).toArray 4 (0, 0))) := hr.out
      have k6 := hide hb.drew
      go_wp2
      go_region_law (refine step_copy_splice (by rfl) (.tmp 41) (.tmp 44) 132 132 (by rfl) 4 Tryz.underlying132 hsz.out (some ⟨w.heap.size, k, none⟩) (some ⟨w.heap.size, 0, none⟩) (n - k) (n - k) k n (by go_simp) (by go_simp) w.heap.size k (rowR (.bool b) (.bool false) k n) 4 k5.out (List.replicate (Nat.min k (n - k)) (.bool b)) (List.length_replicate ..) (fun _ => ⟨rfl, ⟨w.heap.size, 0, none⟩, rfl, k2.out⟩) k3.out k4.out w.heap.size w k6.out (Nat.le_refl _) ?_; intro w2 hr2 hb2)
      have hmn : k + Nat.min k (n - k) ≤ n := by have : Nat.min k (n - k) ≤ n - k := Nat.min_le_right k (n - k); omega
      have hmp : 1 ≤ Nat.min k (n - k) := by show 1 ≤ min k (n - k); omega
      have hr2' : Hid (w2.heap[w.heap.size]? = some (.cells (rowR (.bool b) (.bool false) (k + Nat.min k (n - k)) n).toArray 4 (0, 0))) := by
        show _ = _
        rw [← rowR_splice (.bool b) (.bool false) hmn]
        exact hr2.out
      clear hr2 hcut hhead
      try simp only [List.length_replicate, goInt]
      generalize Nat.min k (n - k) = q at *
      go_wp2
      go_roundg N2
      case measure => omega
      case rel => exact ⟨k + q, by omega, hmn, by rw [IntWalk.i64_in _ (by omega)]; go_num, hr2', hb2, by show _ ≤ _; have := hN.out; omega⟩
    · have hkn : k = n := by omega
      subst hkn
      have hzw := (Array.getElem?_eq_some_iff.1 hr.out).1
      go_wp2
      go_ret
      refine ⟨_, rfl, ⟨by simp, fun _ => ⟨w.heap.size, 0, rfl, Nat.le_refl _, hzw, hzw, fun i x hx j u hu => ?_⟩⟩, hb⟩
      have hik : i < k := by
        have := (List.getElem?_eq_some_iff.1 hx).1
        simpa using this
      have hxb : x = b := List.eq_of_mem_replicate (List.mem_of_getElem? hx)
      subst hxb
      have hj : j = 0 := by
        have := (List.getElem?_eq_some_iff.1 hu).1
        simp [bv] at this
        exact this
      subst hj
      simp [bv] at hu
      subst hu
      refine ⟨(cell_of_row _ _ _ _ _ (0, 0) hr.out).trans ?_, frozen_of_row _ _ _ _ _ hr.out⟩
      have := rowR_get (.bool x) (.bool false) (m := k) (n := k) hik
      simpa using this

theorem replicate_set (n : Nat) (b : Bool) : List.replicate n b = setOf n fun _ => b := by
  refine inS_ext (by rw [setOf_len, List.length_replicate]) fun v hv => ?_
  rw [List.length_replicate] at hv
  rw [inS_setOf, inS_some (b := b) (by simp [hv])]
  simp [hv]

set_option maxHeartbeats 1600000 in
set_option maxRecDepth 100000 in
theorem repeatI_calls (A : Option Addr) (c : Nat) (b : Int) (n : Nat) (w : World) (lo hi : Nat) (h : SlI w lo hi A 1 [b]) (hn0 : 0 < n) (hn : n ≤ 1048576) :
    Calls Tryz.prog 121 #[.slice A 1 c, .int .i64 n] w fun e w' => ∃ A', e = .returned (.slice A' n n) ∧ SlI w' w.heap.size w'.heap.size A' n (List.replicate n b) ∧ Below w.heap.size w w' := by
  have hmk := run_make_int n hn
  obtain ⟨b1, o1, rfl, g1, g2, g3, hc⟩ := h.at_ (by omega)
  have c0 := (hc 0 b rfl 0 _ rfl).1
  simp only [Nat.zero_mul, Nat.add_zero] at c0
  have hsz : (Tryz.prog.info? 2).map (·.size) = some 1 := by kernel_rfl
  have hb0 : Below w.heap.size w (w.alloc (.cells (madeCells #[.int .i64 0] n) 2)) := (Below.refl _ _).alloc (Nat.le_refl _) _
  have c1 := (hb0.cell (p := ⟨b1, o1, none⟩) g3).trans c0
  have hrow : (w.alloc (.cells (madeCells #[.int .i64 0] n) 2)).heap[w.heap.size]? = some (.cells (rowR (.int .i64 b) (.int .i64 0) 0 n).toArray 2 (0, 0)) := by
    rw [heap_alloc_new]
    congr 2
    apply Array.ext'
    rw [toList_madeCells_one]
    simp [rowR]
  replace hrow := hide hrow
  replace hb0 := hide hb0
  replace c1 := hide c1
  replace hsz := hide hsz
  have hE := hide elem_int64
  clear hc h
  go_enter Tryz.func121, Tryz.ntmps121
  go_wp2_with (first | (go_at_call 159; (with_reducible refine (mul_one' n hn _).mono ?_); rintro e w' ⟨rfl, rfl⟩) | (with_reducible refine wpList_copy_splice rfl (.tmp 31) (.tmp 32) 26 26 rfl 2 Tryz.underlying26 hsz.out (some ⟨w.heap.size, 0, none⟩) (some ⟨b1, o1, none⟩) n n 1 c rfl rfl w.heap.size 0 (rowR (.int .i64 b) (.int .i64 0) 0 n) 2 hrow.out [.int .i64 b] ?k1 (fun _ => ⟨rfl, ⟨b1, o1, none⟩, rfl, ?k2⟩) ?k3 ?k4 w.heap.size w hb0.out (Nat.le_refl _) ?_))
  case k1 => show 1 = min 1 n; omega
  case k2 =>
    intro j v hj
    match j, hj with
    | 0, hj => simp at hj; subst hj; simpa [Addr.add] using c1.out
  case k3 => rw [rowR_len _ _ (Nat.zero_le _)]; simp; omega
  case k4 => intro v hv; simp at hv; subst hv; rfl
  rintro w1 hr1 hb1
  have hr1' : Hid (w1.heap[w.heap.size]? = some (.cells (rowR (.int .i64 b) (.int .i64 0) 1 n).toArray 2 (0, 0))) := by
    have := rowR_splice (.int .i64 b) (.int .i64 0) (m := 0) (k := 1) (n := n) (by omega)
    rw [List.replicate_one, Nat.zero_add] at this
    show _ = _
    rw [← this]
    exact hr1.out
  clear hr1 hrow hb0 c1 hmk
  go_wp2
  go_loopg [8] n (fun N m wr => ∃ k : Nat, 1 ≤ k ∧ k ≤ n ∧ m = .int .i64 k ∧ Hid (wr.heap[w.heap.size]? = some (.cells (rowR (.int .i64 b) (.int .i64 0) k n).toArray 2 (0, 0))) ∧ Below w.heap.size w wr ∧ Hid (n - k ≤ N))
  case atStart => exact ⟨1, Nat.le_refl _, hn0, rfl, hr1', hb1, by show _ ≤ _; omega⟩
  case round =>
    obtain ⟨k, hk1, hk, rfl, hr, hb, hN⟩ := hrel
    clear hr1' hb1
    by_cases hlt : k < n
    · have hcut : ∀ W : World, (Instr.slice 26 (.slice (some ⟨w.heap.size, 0, none⟩) n n) (some (.int .i64 (k : Int))) none none).run Tryz.prog W = .ok (.slice (some ⟨w.heap.size, k, none⟩) (n - k) (n - k)) W := fun W => by
        rw [run_cut elem_int64 (some ⟨w.heap.size, 0, none⟩) n n k hk W]
        unfold cutA
        rw [if_neg (by omega), Option.map_some, addr_add, Nat.zero_add, Nat.mul_one]
      have hhead : ∀ W : World, (Instr.slice 26 (.slice (some ⟨w.heap.size, 0, none⟩) n n) none (some (.int .i64 (k : Int))) none).run Tryz.prog W = .ok (.slice (some ⟨w.heap.size, 0, none⟩) k n) W := fun W => run_head elem_int64 (some ⟨w.heap.size, 0, none⟩) n n k hk W
      have hzw := hide ((Array.getElem?_eq_some_iff.1 hr.out).1)
      have i1 : (0 : Int) ≤ (k : Int) := by omega
      have i2 : (k : Int) ≤ (n : Int) := by omega
      obtain ⟨N2, rfl⟩ : ∃ N2, gk = N2 + 1 := ⟨gk - 1, by have := hN.out; omega⟩
      have k2 : Hid (∀ j v, (List.replicate (Nat.min k (n - k)) (Value.int .i64 b))[j]? = some v → wr.drew.cell? ((⟨w.heap.size, 0, none⟩ : Addr).add j) = some v) := by
        intro j v hj
        have hjk : j < Nat.min k (n - k) := by
          have := (List.getElem?_eq_some_iff.1 hj).1
          simpa using this
        have hjk2 : j < k := Nat.lt_of_lt_of_le hjk (Nat.min_le_left _ _)
        have hv : v = .int .i64 b := List.eq_of_mem_replicate (List.mem_of_getElem? hj)
        subst hv
        rw [addr_add, Nat.zero_add]
        refine (cell_of_row _ _ _ _ _ (0, 0) (show wr.drew.heap[w.heap.size]? = _ from hr.out)).trans ?_
        simpa using rowR_get _ _ hjk2
      have k3 : Hid (k + (List.replicate (Nat.min k (n - k)) (Value.int .i64 b)).length ≤ (rowR (.int .i64 b) (.int .i64 0) k n).length) := by
        show _ ≤ _
        rw [rowR_len _ _ hk, List.length_replicate]; have : Nat.min k (n - k) ≤ n - k := Nat.min_le_right k (n - k); omega
      have k4 : Hid (∀ v, v ∈ List.replicate (Nat.min k (n - k)) (Value.int .i64 b) → v.oneCell' = true) := fun v hv => by rw [List.eq_of_mem_replicate hv]; rfl
      have k5 : Hid (wr.drew.heap[w.heap.size]? = some (.cells (rowR (.int .i64 b) (.int .i64 0) k n).toArray 2 (0, 0))) := hr.out
      have k6 := hide hb.drew
      go_wp2
      go_region_law (refine step_copy_splice (by rfl) (.tmp 41) (.tmp 44) 26 26 (by rfl) 2 Tryz.underlying26 hsz.out (some ⟨w.heap.size, k, none⟩) (some ⟨w.heap.size, 0, none⟩) (n - k) (n - k) k n (by go_simp) (by go_simp) w.heap.size k (rowR (.int .i64 b) (.int .i64 0) k n) 2 k5.out (List.replicate (Nat.min k (n - k)) (.int .i64 b)) (List.length_replicate ..) (fun _ => ⟨rfl, ⟨w.heap.size, 0, none⟩, rfl, k2.out⟩) k3.out k4.out w.heap.size w k6.out (Nat.le_refl _) ?_; intro w2 hr2 hb2)
      have hmn : k + Nat.min k (n - k) ≤ n := by have : Nat.min k (n - k) ≤ n - k := Nat.min_le_right k (n - k); omega
      have hmp : 1 ≤ Nat.min k (n - k) := by show 1 ≤ min k (n - k); omega
      have hr2' : Hid (w2.heap[w.heap.size]? = some (.cells (rowR (.int .i64 b) (.int .i64 0) (k + Nat.min k (n - k)) n).toArray 2 (0, 0))) := by
        show _ = _
        rw [← rowR_splice (.int .i64 b) (.int .i64 0) hmn]
        exact hr2.out
      clear hr2 hcut hhead
      try simp only [List.length_replicate, goInt]
      generalize Nat.min k (n - k) = q at *
      go_wp2
      go_roundg N2
      case measure => omega
      case rel => exact ⟨k + q, by omega, hmn, by rw [IntWalk.i64_in _ (by omega)]; go_num, hr2', hb2, by show _ ≤ _; have := hN.out; omega⟩
    · have hkn : k = n := by omega
      subst hkn
      have hzw := (Array.getElem?_eq_some_iff.1 hr.out).1
      go_wp2
      go_ret
      refine ⟨_, rfl, ⟨by simp, fun _ => ⟨w.heap.size, 0, rfl, Nat.le_refl _, hzw, hzw, fun i x hx j u hu => ?_⟩⟩, hb⟩
      have hik : i < k := by
        have := (List.getElem?_eq_some_iff.1 hx).1
        simpa using this
      have hxb : x = b := List.eq_of_mem_replicate (List.mem_of_getElem? hx)
      subst hxb
      have hj : j = 0 := by
        have := (List.getElem?_eq_some_iff.1 hu).1
        simp [iv] at this
        exact this
      subst hj
      simp [iv] at hu
      subst hu
      refine ⟨(cell_of_row _ _ _ _ _ (0, 0) hr.out).trans ?_, frozen_of_row _ _ _ _ _ hr.out⟩
      have := rowR_get (.int .i64 x) (.int .i64 0) (m := k) (n := k) hik
      simpa using this

theorem l00Own_calls (A : Option Addr) (n c : Nat) (l : List Int) (w : World) (lo hi : Nat) (h : SlI w lo hi A n l) (hn : n ≤ 1048576) :
    Calls Tryz.prog 120 #[.slice A n c] w fun e w' => ∃ A' c', e = .returned (.slice A' n c') ∧ SlI w' w.heap.size w'.heap.size A' n l ∧ Below w.heap.size w w' := by
  have hE := hide elem_int64
  have hs := hide (h.below ((Below.refl w.heap.size w).alloc (Nat.le_refl _) (.cells #[] 2)) (.inr (Nat.le_refl _)))
  have hz : w.heap.size ≤ (w.alloc (.cells #[] 2)).heap.size := by simp
  clear h
  go_enter Tryz.func120, Tryz.ntmps120
  go_wp2_with (first | (at_builtin; (with_reducible refine wpList_app rfl (.tmp 3) (.tmp 4) rfl hE.out flat_iv rfl (Own.made w 2 (Nat.le_refl _)) rfl hs.out ?c1 hz ?_); rotate_right; intro A2 c2 w2 hown2 hgr2 hb2 _))
  case c1 => omega
  go_ret
  rw [Nat.zero_add, List.nil_append] at hown2
  exact ⟨_, _, rfl, hown2.sl flat_iv, ((Below.refl _ _).alloc (Nat.le_refl _) _).trans hb2⟩

theorem cloneI_calls (A : Option Addr) (n c : Nat) (l : List Int) (w : World) (lo hi : Nat) (h : SlI w lo hi A n l) (hn : n ≤ 1048576) :
    Calls Tryz.prog 122 #[.slice A n c] w fun e w' => ∃ A' c', e = .returned (.slice A' n c') ∧ SlI w' w.heap.size w'.heap.size A' n l ∧ Below w.heap.size w w' := by
  have hnil : ∀ (W : World) (a : Option Addr) (m d : Nat), (binOp .eql 26 (.slice a m d) (.slice none 0 0)).run Tryz.prog W = .ok (.bool a.isNone) W := fun W a m d => Lib.run_eql_slice_nil W 26 _ a m d 0 0 Tryz.underlying26
  have hE := hide elem_int64
  cases A with
  | none =>
    have hn0 : n = 0 := by
      rcases Nat.eq_zero_or_pos n with h0 | h0
      · exact h0
      · obtain ⟨b, off, e, _⟩ := h.at_ h0
        cases e
    subst hn0
    have hl := List.eq_nil_of_length_eq_zero h.len
    subst hl
    go_enter Tryz.func122, Tryz.ntmps122
    go_wp2_with fail
    go_ret
    exact ⟨none, 0, rfl, Sl.nil_, Below.refl _ _⟩
  | some a =>
    have hs := hide (h.below ((Below.refl w.heap.size w).alloc (Nat.le_refl _) (.cells #[] 2)) (.inr (Nat.le_refl _)))
    have hz : w.heap.size ≤ (w.alloc (.cells #[] 2)).heap.size := by simp
    clear h
    go_enter Tryz.func122, Tryz.ntmps122
    go_wp2_with (first | (at_builtin; (with_reducible refine wpList_app rfl (.tmp 5) (.tmp 6) rfl hE.out flat_iv rfl (Own.made w 2 (Nat.le_refl _)) rfl hs.out ?c1 hz ?_); rotate_right; intro A2 c2 w2 hown2 hgr2 hb2 _))
    case c1 => omega
    go_ret
    rw [Nat.zero_add, List.nil_append] at hown2
    exact ⟨_, _, rfl, hown2.sl flat_iv, ((Below.refl _ _).alloc (Nat.le_refl _) _).trans hb2⟩

end Go.Proofs.YtiaclddgllkgpaaGreatDoor
