/-
  Sorting and compacting lists of at most one number; finding a number in a list. Conditions: sizes.
-/
import Derived.Test.YtiaclddgllkgpaaGreatDoorBaseD
namespace Go.Proofs.YtiaclddgllkgpaaGreatDoor
open Go.ChangeShapes Go.WideShapes Go.ChangeAt Go.RowKit Go.Sort
set_option linter.unusedVariables false

set_option maxRecDepth 100000 in
theorem indexI_calls (v : Int) (A : Option Addr) (n c : Nat) (l : List Int) (w : World) (lo hi : Nat) (h : SlI w lo hi A n l) (hn : n ≤ 1048576) :
    Calls Tryz.prog 204 #[.slice A n c, .int .i64 v] w fun e w' => ∃ i : Int, e = .returned (.int .i64 i) ∧ decide (0 ≤ i) = l.any (fun x => decide (x = v)) ∧ w = w' := by
  have hlen := hide h.len
  go_enter Tryz.func204, Tryz.ntmps204
  go_wp2
  go_loop [8] (fun i => ∃ k : Nat, k ≤ n ∧ i = .int .i64 k ∧ Hid ((l.take k).any (fun x => decide (x = v)) = false)) (fun i => n - (intOf i).toNat)
  case atStart => exact ⟨0, Nat.zero_le _, rfl, rfl⟩
  case round =>
    obtain ⟨k, hk, rfl, ha⟩ := hrel
    by_cases hlt : k < n
    · obtain ⟨b, off, x, rfl, g1, g2, g3, hx, c0, -⟩ := SlI.get h hlt
      clear h
      by_cases hq : x = v
      · have hy := hide (any_hit (G := fun x => decide (x = v)) hx (decide_eq_true hq))
        subst hq
        clear hx
        go_wp2
        go_ret
        exact ⟨_, rfl, by rw [hy.out]; simp, rfl⟩
      · have hy := hide (any_take_succ ha.out hx (decide_eq_false hq))
        have hne : (v == x) = false := by rw [beq_eq_false_iff_ne]; exact fun e => hq e.symm
        clear hx hq
        go_wp2
        go_round
        case rel => exact ⟨k + 1, by omega, by go_num, hy⟩
        case measure => simp [intOf]; omega
    · have hkn : k = n := by omega
      subst hkn
      clear h
      go_wp2
      go_ret
      have hy := ha.out
      rw [List.take_of_length_le (by rw [hlen.out]; exact Nat.le_refl _)] at hy
      exact ⟨_, rfl, by rw [hy]; decide, rfl⟩
theorem containsI_calls (v : Int) (A : Option Addr) (n c : Nat) (l : List Int) (w : World) (lo hi : Nat) (h : SlI w lo hi A n l) (hn : n ≤ 1048576) :
    Calls Tryz.prog 165 #[.slice A n c, .int .i64 v] w fun e w' => e = .returned (.bool (l.any (fun x => decide (x = v)))) ∧ w = w' := by
  have q := hide (indexI_calls v A n c l w lo hi h hn)
  clear h
  go_enter Tryz.func165, Tryz.ntmps165
  go_wp2_with fail
  refine q.out.mono ?_
  rintro e w1 ⟨i, rfl, hi, rfl⟩
  replace hi := hide hi
  go_wp2_with fail
  go_ret
  exact ⟨ret_b hi.out.symm, rfl⟩

theorem len64_short (n : Nat) (hn : n ≤ 1) (w : World) : Calls Tryz.prog 178 #[.int .u64 (n : Int)] w fun e w' => e = .returned (.int .i64 (n : Int)) ∧ w = w' := by
  have h : n = 0 ∨ n = 1 := by omega
  rcases h with rfl | rfl
  · go_enter Tryz.func178, Tryz.ntmps178
    go_wp2
    go_ret
    exact ⟨ret_i (by decide +kernel), rfl⟩
  · go_enter Tryz.func178, Tryz.ntmps178
    go_wp2
    go_ret
    exact ⟨ret_i (by decide +kernel), rfl⟩
theorem len_short (n : Nat) (hn : n ≤ 1) (w : World) : Calls Tryz.prog 134 #[.int .u64 (n : Int)] w fun e w' => e = .returned (.int .i64 (n : Int)) ∧ w = w' := by
  have q := hide (len64_short n hn w)
  have h : n = 0 ∨ n = 1 := by omega
  rcases h with rfl | rfl
  · go_enter Tryz.func134, Tryz.ntmps134
    go_wp2_with fail
    refine q.out.mono ?_
    rintro e w1 ⟨rfl, rfl⟩
    go_wp2_with fail
    go_ret
    exact ⟨rfl, rfl⟩
  · go_enter Tryz.func134, Tryz.ntmps134
    go_wp2_with fail
    refine q.out.mono ?_
    rintro e w1 ⟨rfl, rfl⟩
    go_wp2_with fail
    go_ret
    exact ⟨rfl, rfl⟩
theorem insert_short (A : Option Addr) (n c : Nat) (hn : n ≤ 1) (w : World) : Calls Tryz.prog 224 #[.slice A n c, .int .i64 0, .int .i64 (n : Int)] w fun e w' => e = .returned (.tuple #[]) ∧ w = w' := by
  have h1 : ¬ (1 : Int) < (n : Int) := by omega
  go_enter Tryz.func224, Tryz.ntmps224
  go_wp2
  go_loopw [6] (fun i wr => i = .int .i64 1 ∧ wr = w) (fun i _ => 0)
  case atStart => exact ⟨rfl, rfl⟩
  case round =>
    obtain ⟨rfl, rfl⟩ := hrel
    go_wp2
    go_returns
    exact ⟨rfl, rfl⟩
theorem pdq_short (A : Option Addr) (n c : Nat) (m : Int) (hn : n ≤ 1) (w : World) : Calls Tryz.prog 205 #[.slice A n c, .int .i64 0, .int .i64 (n : Int), .int .i64 m] w fun e w' => e = .returned (.tuple #[]) ∧ w = w' := by
  have q := hide (insert_short A n c hn w)
  have h1 : (n : Int) ≤ 12 := by omega
  go_enter Tryz.func205, Tryz.ntmps205
  go_wp2
  go_loopw [1, 2] (fun a b wr => a = .int .i64 0 ∧ b = .int .i64 (n : Int) ∧ wr = w) (fun _ _ _ => 0)
  case atStart => exact ⟨rfl, rfl, rfl⟩
  case round =>
    obtain ⟨rfl, rfl, rfl⟩ := hrel
    go_wp2_with fail
    refine q.out.mono ?_
    rintro e w1 ⟨rfl, rfl⟩
    go_wp2_with fail
    go_returns
    exact ⟨rfl, rfl⟩
theorem sort_short (A : Option Addr) (n c : Nat) (hn : n ≤ 1) (w : World) : Calls Tryz.prog 166 #[.slice A n c] w fun e w' => e = .returned (.tuple #[]) ∧ w = w' := by
  have q := hide (len_short n hn w)
  have q1 := hide (fun m => pdq_short A n c m hn w)
  have h1 : (n : Int) ≤ 1 := by omega
  go_enter Tryz.func166, Tryz.ntmps166
  go_wp2_with fail
  refine q.out.mono ?_
  rintro e w1 ⟨rfl, rfl⟩
  go_wp2_with fail
  refine (q1.out _).mono ?_
  rintro e w1 ⟨rfl, rfl⟩
  go_wp2_with fail
  go_returns
  exact ⟨rfl, rfl⟩
theorem compact_short (A : Option Addr) (n c : Nat) (hn : n ≤ 1) (w : World) : Calls Tryz.prog 167 #[.slice A n c] w fun e w' => e = .returned (.slice A n c) ∧ w = w' := by
  have h1 : (n : Int) < 2 := by omega
  go_enter Tryz.func167, Tryz.ntmps167
  go_wp2
  go_ret
  exact ⟨rfl, rfl⟩

end Go.Proofs.YtiaclddgllkgpaaGreatDoor
