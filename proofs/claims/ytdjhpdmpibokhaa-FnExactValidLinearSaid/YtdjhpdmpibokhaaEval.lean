/-
  What the functions that evaluate expressions compute, on both sides. Conditions: at most 1048576 terms and values.
-/
import Derived.Test.YtdjhpdmpibokhaaOps
import Derived.Test.YtdjhpdmpibokhaaTree
import Derived.Test.YtdjhpdmpibokhaaFuncs
import Derived.Deep.QuietTactic
import Derived.BigQuiet
namespace Go.Proofs.Ytdjhpdmpibokhaa
open Go.ChangeShapes Go.WideShapes Go.ChangeAt Go.RowKit
set_option linter.unusedVariables false

theorem all_take_succ {α : Type} {G : α → Bool} {l : List α} {k : Nat} {x : α} (h : (l.take k).all G = true) (hx : l[k]? = some x) (hg : G x = true) : (l.take (k + 1)).all G = true := by
  rw [List.take_add_one, hx, List.all_append, h]
  simp [hg]
theorem all_miss {α : Type} {G : α → Bool} {l : List α} {k : Nat} {x : α} (hx : l[k]? = some x) (hg : G x = false) : l.all G = false := by
  rw [Bool.eq_false_iff]
  intro h
  rw [List.all_eq_true.1 h x (List.mem_of_getElem? hx)] at hg
  cases hg

theorem l03Data_calls (A : Option Addr) (n c : Nat) (l : List Int) (w : World) (lo hi : Nat) (h : SlI w lo hi A n l) (hn : n ≤ 1048576) :
    Calls Try.prog 70 #[.slice A n c] w fun e w' => e = .returned (.bool (dataOk l)) ∧ w = w' := by
  have hlen := hide h.len
  go_enter Try.func70, Try.ntmps70
  go_wp2
  go_loop [3] (fun i => ∃ k : Nat, k ≤ n ∧ i = .int .i64 k ∧ Hid ((l.take k).all (fun x => inB x 0 63) = true)) (fun i => n - (intOf i).toNat)
  case atStart => exact ⟨0, Nat.zero_le _, rfl, rfl⟩
  case round =>
    obtain ⟨k, hk, rfl, ha⟩ := hrel
    by_cases hlt : k < n
    · obtain ⟨b, off, x, rfl, g1, g2, g3, hx, c0, -⟩ := h.get hlt
      have hq := l00In_calls x 0 63 w
      replace hx := hide hx
      clear h
      by_cases hg : inB x 0 63 = true
      · rw [hg] at hq
        replace hq := hide hq
        have hy := hide (all_take_succ (G := fun x => inB x 0 63) ha.out hx.out hg)
        clear hg
        go_wp2_with (go_at_call 49; (with_reducible refine hq.out.mono ?_); rintro e w' ⟨rfl, rfl⟩)
        go_round
        case rel => exact ⟨k + 1, by omega, by go_num, hy⟩
        case measure => simp [intOf]; omega
      · replace hg := Bool.eq_false_iff.2 hg
        rw [hg] at hq
        replace hq := hide hq
        have hy : Hid (dataOk l = false) := all_miss (G := fun x => inB x 0 63) hx.out hg
        clear hg
        go_wp2_with (go_at_call 49; (with_reducible refine hq.out.mono ?_); rintro e w' ⟨rfl, rfl⟩)
        go_ret
        exact ⟨ret_b hy.out, rfl⟩
    · have hkn : k = n := by omega
      subst hkn
      go_wp2
      go_ret
      have hy := ha.out
      rw [List.take_of_length_le (by rw [hlen.out]; exact Nat.le_refl _)] at hy
      exact ⟨ret_b hy, rfl⟩

theorem areValues1_calls (v : Int) (w : World) : Calls Try.prog 103 #[.int .i64 v] w (Says (!inB v 0 63) w) := by
  go_enter Try.func103, Try.ntmps103
  go_wp2_with (go_at_call 94; (with_reducible refine (isValue_calls _ _).mono ?_); rintro e w' ⟨rfl, rfl⟩)
  go_ret
  exact ⟨rfl, Below.refl _ _⟩

theorem not_any_not {α : Type} (G : α → Bool) (l : List α) : (!(l.any fun x => !G x)) = l.all G := by
  induction l with
  | nil => rfl
  | cons x l ih => rw [List.any_cons, List.all_cons, ← ih]; cases G x <;> simp

theorem areValues_calls (A : Option Addr) (n c : Nat) (l : List Int) (w : World) (lo hi : Nat) (h : SlI w lo hi A n l) (hn : n ≤ 1048576) :
    Calls Try.prog 72 #[.slice A n c] w fun e w' => e = .returned (.bool (dataOk l)) ∧ Below w.heap.size w w' := by
  have q := hide (containsFuncI_calls 103 #[] (fun v => !inB v 0 63) A n c l w lo hi h hn (fun _ _ => by kernel_rfl) (fun v W _ => areValues1_calls v W))
  clear h
  have hr : Hid ((!(l.any fun v => !inB v 0 63)) = dataOk l) := not_any_not _ _
  go_enter Try.func72, Try.ntmps72
  go_wp2_with fail
  refine q.out.mono ?_
  rintro e w1 ⟨rfl, hb⟩
  go_wp2_with fail
  go_ret
  exact ⟨ret_b hr.out.symm, hb⟩

def uncov (n : Int) (t : Int × Int) : Bool := decide (t.1 = 1) && decide (n ≤ t.2)

theorem covered1_calls (x y n : Int) (b5 : Nat) (W : World) (h5 : W.cell? ⟨b5, 0, none⟩ = some (.int .i64 n)) :
    Calls Try.prog 105 #[.agg #[.int .i64 x, .int .i64 y], .pointer (some ⟨b5, 0, none⟩)] W (Says (uncov n (x, y)) W) := by
  have hlt := World.block_lt_of_cell? W _ h5
  replace hlt : b5 < W.heap.size := hlt
  have o5 : (W.alloc (.cells #[.int .i64 x, .int .i64 y] 72)).cell? ⟨b5, 0, none⟩ = some (.int .i64 n) := (World.cell?_of_block (w := W) (Below.heap_alloc _ _ _ hlt)).trans h5
  by_cases hx : x = 1
  · subst hx
    have hr : Hid (uncov n (1, y) = decide (n ≤ y)) := hide (by simp [uncov])
    go_enter Try.func105, Try.ntmps105
    go_wp2
    go_ret
    exact ⟨ret_b hr.out, (Below.refl _ _).alloc (Nat.le_refl _) _⟩
  · have hr : Hid (uncov n (x, y) = false) := hide (by simp [uncov, hx])
    have e1 : (x == 1) = false := by simpa using hx
    clear hx
    go_enter Try.func105, Try.ntmps105
    go_wp2
    go_ret
    exact ⟨ret_b hr.out, (Below.refl _ _).alloc (Nat.le_refl _) _⟩

theorem covered_calls (A : Option Addr) (n c : Nat) (l : List (Int × Int)) (m : Int) (w : World) (lo hi : Nat) (h : SlT w lo hi A n l) (hn : n ≤ 1048576) :
    Calls Try.prog 73 #[.slice A n c, .int .i64 m] w fun e w' => e = .returned (.bool (!(l.any (uncov m)))) ∧ Below w.heap.size w w' := by
  have hb0 : Below w.heap.size w (w.alloc (.cells #[.int .i64 m] 3)) := (Below.refl _ _).alloc (Nat.le_refl _) _
  have x5 : (w.alloc (.cells #[.int .i64 m] 3)).cell? ⟨w.heap.size, 0, none⟩ = some (.int .i64 m) := (cell_of_row _ _ 0 _ _ (0, 0) (heap_alloc_new w _)).trans rfl
  have q := hide (containsFuncT_calls 105 #[.pointer (some ⟨w.heap.size, 0, none⟩)] (uncov m) A n c l _ _ _ (h.below hb0 (.inr (Nat.le_refl _))) hn (fun _ _ => by kernel_rfl) (fun x y W hW => covered1_calls x y m _ W ((old_cell hW (by simp)).trans x5)))
  have hz := hb0.size
  clear h x5
  go_enter Try.func73, Try.ntmps73
  go_wp2_with fail
  refine q.out.mono ?_
  rintro e w1 ⟨rfl, hb⟩
  have hb1 := hb0.trans (hb.mono hz)
  clear hb0 hb
  go_wp2_with fail
  go_ret
  exact ⟨rfl, hb1⟩

end Go.Proofs.Ytdjhpdmpibokhaa
