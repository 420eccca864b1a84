/-
  What the operations on values compute, on both sides. Conditions: values from 0 to 63.
-/
import Derived.Test.YtdjhpdmpibokhaaRows
import Derived.Test.YtdjhpdmpibokhaaEvalMath
namespace Go.Proofs.Ytdjhpdmpibokhaa
open Go.ChangeShapes Go.WideShapes Go.ChangeAt Go.RowKit
set_option linter.unusedVariables false

theorem truth_calls (b : Bool) (w : World) : Calls Try.prog 107 #[.bool b] w fun e w' => e = .returned (.int .i64 (tr b)) ∧ w = w' := by
  cases b
  · go_enter Try.func107, Try.ntmps107
    go_wp2
    go_ret
    exact ⟨rfl, rfl⟩
  · go_enter Try.func107, Try.ntmps107
    go_wp2
    go_ret
    exact ⟨rfl, rfl⟩

theorem operate_calls (op a b : Int) (w : World) (ha : 0 ≤ a ∧ a ≤ 63) (hb : 0 ≤ b ∧ b ≤ 63) :
    Calls Try.prog 108 #[.int .i64 op, .int .i64 a, .int .i64 b] w fun e w' => e = .returned (.int .i64 (opF op a b)) ∧ w = w' := by
  have hab := mul_bd ha hb
  have hab0 := hab.1
  have hab1 := hab.2
  have ha0 := ha.1
  have ha1 := ha.2
  have hb0 := hb.1
  have hb1 := hb.2
  clear hab ha hb
  by_cases h0 : op = 0
  · subst h0
    have hr := hide (show opF 0 a b = (a + b) % 64 from by simp [opF])
    go_enter Try.func108, Try.ntmps108
    go_wp2_with fail
    go_ret
    exact ⟨ret_i (by rw [hr.out]), rfl⟩
  by_cases h1 : op = 1
  · subst h1
    have hr := hide (show opF 1 a b = (a - b + 64) % 64 from by simp [opF])
    go_enter Try.func108, Try.ntmps108
    go_wp2_with fail
    go_ret
    exact ⟨ret_i (by rw [hr.out]), rfl⟩
  by_cases h2 : op = 2
  · subst h2
    have hr := hide (show opF 2 a b = a * b % 64 from by simp [opF])
    go_enter Try.func108, Try.ntmps108
    go_wp2_with fail
    go_ret
    exact ⟨ret_i (by rw [hr.out]), rfl⟩
  by_cases h3 : op = 3
  · subst h3
    have hr := hide (show opF 3 a b = tr (a == b) from by simp [opF])
    go_enter Try.func108, Try.ntmps108
    go_wp2_with ((go_at_call 107; (with_reducible refine (truth_calls _ _).mono ?_); rintro e w' ⟨rfl, rfl⟩))
    go_ret
    exact ⟨ret_i (by rw [hr.out]), rfl⟩
  by_cases h4 : op = 4
  · subst h4
    have hr := hide (show opF 4 a b = tr (a != b) from by simp [opF])
    go_enter Try.func108, Try.ntmps108
    go_wp2_with ((go_at_call 107; (with_reducible refine (truth_calls _ _).mono ?_); rintro e w' ⟨rfl, rfl⟩))
    go_ret
    exact ⟨ret_i (by rw [hr.out]), rfl⟩
  by_cases h5 : op = 5
  · subst h5
    have hr := hide (show opF 5 a b = tr (decide (a < b)) from by simp [opF])
    go_enter Try.func108, Try.ntmps108
    go_wp2_with ((go_at_call 107; (with_reducible refine (truth_calls _ _).mono ?_); rintro e w' ⟨rfl, rfl⟩))
    go_ret
    exact ⟨ret_i (by rw [hr.out]), rfl⟩
  by_cases h6 : op = 6
  · subst h6
    have hr := hide (show opF 6 a b = tr (decide (a ≤ b)) from by simp [opF])
    go_enter Try.func108, Try.ntmps108
    go_wp2_with ((go_at_call 107; (with_reducible refine (truth_calls _ _).mono ?_); rintro e w' ⟨rfl, rfl⟩))
    go_ret
    exact ⟨ret_i (by rw [hr.out]), rfl⟩
  by_cases h7 : op = 7
  · subst h7
    by_cases hz : a = 0
    · subst hz
      have ez : ((0 : Int) != 0) = false := rfl
      have hr := hide (show opF 7 0 b = tr false from by simp [opF])
      go_enter Try.func108, Try.ntmps108
      go_wp2_with ((go_at_call 107; (with_reducible refine (truth_calls _ _).mono ?_); rintro e w' ⟨rfl, rfl⟩))
      go_ret
      exact ⟨ret_i (by rw [hr.out]), rfl⟩
    · have ez : (a != 0) = true := by simpa using hz
      have hr := hide (show opF 7 a b = tr (b != 0) from by simp [opF, ez])
      go_enter Try.func108, Try.ntmps108
      go_wp2_with ((go_at_call 107; (with_reducible refine (truth_calls _ _).mono ?_); rintro e w' ⟨rfl, rfl⟩))
      go_ret
      exact ⟨ret_i (by rw [hr.out]), rfl⟩
  have e0 : (op == 0) = false := by simpa using h0
  have e1 : (op == 1) = false := by simpa using h1
  have e2 : (op == 2) = false := by simpa using h2
  have e3 : (op == 3) = false := by simpa using h3
  have e4 : (op == 4) = false := by simpa using h4
  have e5 : (op == 5) = false := by simpa using h5
  have e6 : (op == 6) = false := by simpa using h6
  have e7 : (op == 7) = false := by simpa using h7
  have hd : opF op a b = tr (a != 0 || b != 0) := by simp [opF, h0, h1, h2, h3, h4, h5, h6, h7]
  clear h0 h1 h2 h3 h4 h5 h6 h7
  by_cases hz : a = 0
  · subst hz
    have ez : ((0 : Int) != 0) = false := rfl
    replace hd := hide hd
    have hr := hide (show opF op 0 b = tr (b != 0) from by rw [hd.out]; simp)
    go_enter Try.func108, Try.ntmps108
    go_wp2_with ((go_at_call 107; (with_reducible refine (truth_calls _ _).mono ?_); rintro e w' ⟨rfl, rfl⟩))
    go_ret
    exact ⟨ret_i (by rw [hr.out]), rfl⟩
  · have ez : (a != 0) = true := by simpa using hz
    replace hd := hide hd
    have hr := hide (show opF op a b = tr true from by rw [hd.out]; simp [ez])
    go_enter Try.func108, Try.ntmps108
    go_wp2_with ((go_at_call 107; (with_reducible refine (truth_calls _ _).mono ?_); rintro e w' ⟨rfl, rfl⟩))
    go_ret
    exact ⟨ret_i (by rw [hr.out]), rfl⟩

theorem l03Truth_calls (b : Bool) (w : World) : Calls Try.prog 120 #[.bool b] w fun e w' => e = .returned (.int .i64 (tr b)) ∧ w = w' := by
  cases b
  · go_enter Try.func120, Try.ntmps120
    go_wp2
    go_ret
    exact ⟨rfl, rfl⟩
  · go_enter Try.func120, Try.ntmps120
    go_wp2
    go_ret
    exact ⟨rfl, rfl⟩

theorem l03Op_calls (op a b : Int) (w : World) (ha : 0 ≤ a ∧ a ≤ 63) (hb : 0 ≤ b ∧ b ≤ 63) :
    Calls Try.prog 122 #[.int .i64 op, .int .i64 a, .int .i64 b] w fun e w' => e = .returned (.int .i64 (opF op a b)) ∧ w = w' := by
  have hab := mul_bd ha hb
  have hab0 := hab.1
  have hab1 := hab.2
  have ha0 := ha.1
  have ha1 := ha.2
  have hb0 := hb.1
  have hb1 := hb.2
  clear hab ha hb
  by_cases h0 : op = 0
  · subst h0
    have hr := hide (show opF 0 a b = (a + b) % 64 from by simp [opF])
    go_enter Try.func122, Try.ntmps122
    go_wp2_with fail
    go_ret
    exact ⟨ret_i (by rw [hr.out]), rfl⟩
  by_cases h1 : op = 1
  · subst h1
    have hr := hide (show opF 1 a b = (a - b + 64) % 64 from by simp [opF])
    go_enter Try.func122, Try.ntmps122
    go_wp2_with fail
    go_ret
    exact ⟨ret_i (by rw [hr.out]), rfl⟩
  by_cases h2 : op = 2
  · subst h2
    have hr := hide (show opF 2 a b = a * b % 64 from by simp [opF])
    go_enter Try.func122, Try.ntmps122
    go_wp2_with fail
    go_ret
    exact ⟨ret_i (by rw [hr.out]), rfl⟩
  by_cases h3 : op = 3
  · subst h3
    have hr := hide (show opF 3 a b = tr (a == b) from by simp [opF])
    go_enter Try.func122, Try.ntmps122
    go_wp2_with ((go_at_call 120; (with_reducible refine (l03Truth_calls _ _).mono ?_); rintro e w' ⟨rfl, rfl⟩))
    go_ret
    exact ⟨ret_i (by rw [hr.out]), rfl⟩
  by_cases h4 : op = 4
  · subst h4
    have hr := hide (show opF 4 a b = tr (a != b) from by simp [opF])
    go_enter Try.func122, Try.ntmps122
    go_wp2_with ((go_at_call 120; (with_reducible refine (l03Truth_calls _ _).mono ?_); rintro e w' ⟨rfl, rfl⟩))
    go_ret
    exact ⟨ret_i (by rw [hr.out]), rfl⟩
  by_cases h5 : op = 5
  · subst h5
    have hr := hide (show opF 5 a b = tr (decide (a < b)) from by simp [opF])
    go_enter Try.func122, Try.ntmps122
    go_wp2_with ((go_at_call 120; (with_reducible refine (l03Truth_calls _ _).mono ?_); rintro e w' ⟨rfl, rfl⟩))
    go_ret
    exact ⟨ret_i (by rw [hr.out]), rfl⟩
  by_cases h6 : op = 6
  · subst h6
    have hr := hide (show opF 6 a b = tr (decide (a ≤ b)) from by simp [opF])
    go_enter Try.func122, Try.ntmps122
    go_wp2_with ((go_at_call 120; (with_reducible refine (l03Truth_calls _ _).mono ?_); rintro e w' ⟨rfl, rfl⟩))
    go_ret
    exact ⟨ret_i (by rw [hr.out]), rfl⟩
  by_cases h7 : op = 7
  · subst h7
    by_cases hz : a = 0
    · subst hz
      have ez : ((0 : Int) != 0) = false := rfl
      have hr := hide (show opF 7 0 b = tr false from by simp [opF])
      go_enter Try.func122, Try.ntmps122
      go_wp2_with ((go_at_call 120; (with_reducible refine (l03Truth_calls _ _).mono ?_); rintro e w' ⟨rfl, rfl⟩))
      go_ret
      exact ⟨ret_i (by rw [hr.out]), rfl⟩
    · have ez : (a != 0) = true := by simpa using hz
      have hr := hide (show opF 7 a b = tr (b != 0) from by simp [opF, ez])
      go_enter Try.func122, Try.ntmps122
      go_wp2_with ((go_at_call 120; (with_reducible refine (l03Truth_calls _ _).mono ?_); rintro e w' ⟨rfl, rfl⟩))
      go_ret
      exact ⟨ret_i (by rw [hr.out]), rfl⟩
  have e0 : (op == 0) = false := by simpa using h0
  have e1 : (op == 1) = false := by simpa using h1
  have e2 : (op == 2) = false := by simpa using h2
  have e3 : (op == 3) = false := by simpa using h3
  have e4 : (op == 4) = false := by simpa using h4
  have e5 : (op == 5) = false := by simpa using h5
  have e6 : (op == 6) = false := by simpa using h6
  have e7 : (op == 7) = false := by simpa using h7
  have hd : opF op a b = tr (a != 0 || b != 0) := by simp [opF, h0, h1, h2, h3, h4, h5, h6, h7]
  clear h0 h1 h2 h3 h4 h5 h6 h7
  by_cases hz : a = 0
  · subst hz
    have ez : ((0 : Int) != 0) = false := rfl
    replace hd := hide hd
    have hr := hide (show opF op 0 b = tr (b != 0) from by rw [hd.out]; simp)
    go_enter Try.func122, Try.ntmps122
    go_wp2_with ((go_at_call 120; (with_reducible refine (l03Truth_calls _ _).mono ?_); rintro e w' ⟨rfl, rfl⟩))
    go_ret
    exact ⟨ret_i (by rw [hr.out]), rfl⟩
  · have ez : (a != 0) = true := by simpa using hz
    replace hd := hide hd
    have hr := hide (show opF op a b = tr true from by rw [hd.out]; simp [ez])
    go_enter Try.func122, Try.ntmps122
    go_wp2_with ((go_at_call 120; (with_reducible refine (l03Truth_calls _ _).mono ?_); rintro e w' ⟨rfl, rfl⟩))
    go_ret
    exact ⟨ret_i (by rw [hr.out]), rfl⟩

end Go.Proofs.Ytdjhpdmpibokhaa
