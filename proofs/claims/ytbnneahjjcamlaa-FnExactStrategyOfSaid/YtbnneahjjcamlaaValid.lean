/-
  Validity of games: what the program's and the reference's tests compute. Conditions: at most 1048576 vertices.
-/
import Derived.Test.YtbnneahjjcamlaaKindV
import Derived.Test.YtbnneahjjcamlaaBools
import Derived.IntWalk
namespace Go.Proofs.Ytbnneahjjcamlaa
open Go.ChangeShapes Go.WideShapes Go.ChangeAt Go.RowKit
set_option linter.unusedVariables false

theorem same_quiet {P : Program} {f : FuncId} {args : Array Value} {w : World} {n : Nat} {v : Value} (h : Calls P f args (w.drewN n) fun e w' => e = .returned v ∧ w.drewN n = w') :
    Calls P f args (w.drewN n) fun e w'' => e = .returned v ∧ ∃ m, w'' = w.drewN m := h.mono fun _ _ ⟨he, hm⟩ => ⟨he, n, hm.symm⟩
theorem same_quiet2 {P : Program} {f : FuncId} {args : Array Value} {w : World} {N n : Nat} {v : Value} (h : Calls P f args (w.drewN (N + n)) fun e w' => e = .returned v ∧ w.drewN (N + n) = w') :
    Calls P f args (w.drewN (N + n)) fun e w'' => e = .returned v ∧ ∃ m, w'' = w.drewN (N + m) := h.mono fun _ _ ⟨he, hm⟩ => ⟨he, n, hm.symm⟩
theorem below_drewN (w : World) (k : Nat) : Below w.heap.size w (w.drewN k) := ⟨rfl, rfl, rfl, Nat.le_refl _, fun _ _ => rfl⟩

theorem l00In_calls (n lo hi : Int) (w : World) :
    Calls Try.prog 79 #[.int .i64 n, .int .i64 lo, .int .i64 hi] w fun e w' => e = .returned (.bool (inB n lo hi)) ∧ w = w' := by
  by_cases h : lo ≤ n
  · have hr := hide (show inB n lo hi = decide (n ≤ hi) from by unfold inB; simp [h])
    go_enter Try.func79, Try.ntmps79
    go_wp2
    go_ret
    exact ⟨ret_b (by rw [hr.out]), rfl⟩
  · have hr := hide (show inB n lo hi = false from by unfold inB; simp [h])
    go_enter Try.func79, Try.ntmps79
    go_wp2
    go_ret
    exact ⟨ret_b (by rw [hr.out]), rfl⟩
theorem within_calls (n lo hi : Int) (w : World) :
    Calls Try.prog 88 #[.int .i64 n, .int .i64 lo, .int .i64 hi] w fun e w' => e = .returned (.bool (inB n lo hi)) ∧ w = w' := by
  by_cases h : lo ≤ n
  · have hr := hide (show inB n lo hi = decide (n ≤ hi) from by unfold inB; simp [h])
    go_enter Try.func88, Try.ntmps88
    go_wp2
    go_ret
    exact ⟨ret_b (by rw [hr.out]), rfl⟩
  · have hr := hide (show inB n lo hi = false from by unfold inB; simp [h])
    go_enter Try.func88, Try.ntmps88
    go_wp2
    go_ret
    exact ⟨ret_b (by rw [hr.out]), rfl⟩
theorem index_calls (x : Int) (m : Nat) (hm : m ≤ 1048576) (w : World) :
    Calls Try.prog 74 #[.int .i64 x, .int .i64 m] w fun e w' => e = .returned (.bool (inB x 0 ((m : Int) - 1))) ∧ w = w' := by
  go_enter Try.func74, Try.ntmps74
  go_wp2_with (go_at_call 88; refine (within_calls _ _ _ _).mono ?_; rintro e w' ⟨rfl, rfl⟩)
  go_ret
  exact ⟨rfl, rfl⟩

theorem inB_true {n lo hi : Int} : inB n lo hi = true ↔ lo ≤ n ∧ n ≤ hi := by unfold inB; simp
theorem inB_false {n lo hi : Int} : inB n lo hi = false ↔ ¬ (lo ≤ n ∧ n ≤ hi) := by rw [← inB_true]; simp
theorem vx_eq (m : Int) (x : Vx) : decide (VxOk m x) = (inB x.1 0 1 && (inB x.2.1 0 9 && decide (Inc m x.2.2))) := by
  unfold VxOk
  rw [Bool.eq_iff_iff]
  simp [inB_true, and_assoc]

set_option maxHeartbeats 800000 in
theorem increasing_calls (A : Option Addr) (n c : Nat) (l : List Int) (m : Nat) (hm : m ≤ 1048576) (w : World) (lo hi : Nat) (h : SlI w lo hi A n l) (hn : n ≤ maxLen) :
    Calls Try.prog 70 #[.slice A n c, .int .i64 m] w fun e w' => e = .returned (.bool (decide (Inc m l))) ∧ w = w' := by
  have hn' : n ≤ 9223372036854775807 := by unfold maxLen at hn; omega
  have hlen := hide h.len
  replace h := hide h
  clear hn
  go_enter Try.func70, Try.ntmps70
  go_wp2
  go_loop [9] (fun i => ∃ k : Nat, k ≤ n ∧ i = .int .i64 k ∧ Hid (Inc m (l.take k))) (fun i => n - (intOf i).toNat)
  case atStart => exact ⟨0, Nat.zero_le _, rfl, by show Inc m (l.take 0); rw [List.take_zero]; exact Inc.nil_ _⟩
  case round =>
    obtain ⟨k, hk, rfl, ha⟩ := hrel
    by_cases hlt : k < n
    · obtain ⟨b, off, x, eA, g1, g2, g3, hx, c0, -⟩ := h.out.get hlt
      by_cases hr : 0 ≤ x ∧ x < m
      · have hin : inB x 0 ((m : Int) - 1) = true := inB_true.2 (by omega)
        by_cases hk0 : 0 < k
        · obtain ⟨b', off', y, eA', -, -, -, hy, d0, -⟩ := h.out.get (show k - 1 < n by omega)
          rw [eA] at eA'
          cases eA'
          subst eA
          clear h
          by_cases hyx : x ≤ y
          · have hv : Hid (decide (Inc m l) = false) := decide_eq_false (Inc.fall (k := k - 1) hy (by rw [show k - 1 + 1 = k by omega]; exact hx) hyx)
            clear hx hy hr
            go_wp2_with (go_at_call 74; (with_reducible refine (index_calls _ _ hm _).mono ?_); rintro e w' ⟨rfl, rfl⟩)
            go_ret
            exact ⟨ret_b (by rw [hv.out]), rfl⟩
          · have hnext : Hid (Inc m (l.take (k + 1))) := by
              have h1 := ha.out
              rw [show k = k - 1 + 1 by omega] at h1 ⊢
              exact h1.step hy (by rw [show k - 1 + 1 = k by omega]; exact hx) hr (by omega)
            clear hx hy hr
            go_wp2_with (go_at_call 74; (with_reducible refine (index_calls _ _ hm _).mono ?_); rintro e w' ⟨rfl, rfl⟩)
            go_round
            case rel => exact ⟨k + 1, by omega, by go_num, hnext⟩
            case measure => simp [intOf]; omega
        · have hnext : Hid (Inc m (l.take (k + 1))) := by
            have : k = 0 := by omega
            subst this
            exact Inc.one hx hr
          subst eA
          clear h hx hr
          go_wp2_with (go_at_call 74; (with_reducible refine (index_calls _ _ hm _).mono ?_); rintro e w' ⟨rfl, rfl⟩)
          go_round
          case rel => exact ⟨k + 1, by omega, by go_num, hnext⟩
          case measure => simp [intOf]; omega
      · have hin : inB x 0 ((m : Int) - 1) = false := inB_false.2 (by omega)
        have hv : Hid (decide (Inc m l) = false) := decide_eq_false (Inc.bad hx hr)
        subst eA
        clear h hx hr
        go_wp2_with (go_at_call 74; (with_reducible refine (index_calls _ _ hm _).mono ?_); rintro e w' ⟨rfl, rfl⟩)
        go_ret
        exact ⟨ret_b (by rw [hv.out]), rfl⟩
    · have hkn : k = n := by omega
      subst hkn
      have ha' := ha.out
      rw [List.take_of_length_le (by rw [hlen.out]; exact Nat.le_refl _)] at ha'
      have hv : Hid (decide (Inc m l) = true) := decide_eq_true ha'
      clear h ha ha'
      go_wp2
      go_ret
      exact ⟨ret_b (by rw [hv.out]), rfl⟩

set_option maxHeartbeats 800000 in
theorem rises_calls (A : Option Addr) (n c : Nat) (l : List Int) (m : Nat) (hm : m ≤ 1048576) (w : World) (lo hi : Nat) (h : SlI w lo hi A n l) (hn : n ≤ maxLen) :
    Calls Try.prog 80 #[.slice A n c, .int .i64 0, .int .i64 ((m : Int) - 1)] w fun e w' => e = .returned (.bool (decide (Inc m l))) ∧ ∃ N, w' = w.drewN N := by
  have hn' : n ≤ 9223372036854775807 := by unfold maxLen at hn; omega
  have hlen := hide h.len
  replace h := hide h
  clear hn
  have q := hide (fun x N => l00In_calls x 0 ((m : Int) - 1) (w.drewN N))
  go_enter Try.func80, Try.ntmps80
  go_wp2
  go_loopw [7] (fun i wr => ∃ k : Nat, k ≤ n ∧ i = .int .i64 k ∧ (∃ N, wr = w.drewN N) ∧ Hid (Inc m (l.take k))) (fun i _ => n - (intOf i).toNat)
  case atStart => exact ⟨0, Nat.zero_le _, rfl, ⟨0, rfl⟩, by show Inc m (l.take 0); rw [List.take_zero]; exact Inc.nil_ _⟩
  case round =>
    obtain ⟨k, hk, rfl, ⟨N, rfl⟩, ha⟩ := hrel
    by_cases hlt : k < n
    · obtain ⟨b, off, x, eA, g1, g2, g3, hx, c0, -⟩ := h.out.get hlt
      have hk1 : (0 : Int) ≤ (k : Int) := by omega
      have hk2 : (k : Int) < (n : Int) := by omega
      by_cases hr : 0 ≤ x ∧ x < m
      · have hin : inB x 0 ((m : Int) - 1) = true := inB_true.2 (by omega)
        by_cases hk0 : 0 < k
        · obtain ⟨b', off', y, eA', -, -, -, hy, d0, -⟩ := h.out.get (show k - 1 < n by omega)
          rw [eA] at eA'
          cases eA'
          subst eA
          clear h
          have e1 : decide ((0 : Int) < (k : Int)) = true := decide_eq_true (by omega)
          have e2 : IntKind.i64.wrap ((k : Int) - 1) = (k : Int) - 1 := IntWalk.i64_in _ (by omega)
          have e3 : 0 ≤ (k : Int) - 1 := by omega
          have e4 : ((k : Int) - 1).toNat = k - 1 := by omega
          have e5 : (k : Int) - 1 < n := by omega
          by_cases hyx : x ≤ y
          · have hv : Hid (decide (Inc m l) = false) := decide_eq_false (Inc.fall (k := k - 1) hy (by rw [show k - 1 + 1 = k by omega]; exact hx) hyx)
            clear hx hy hr
            go_wp2
            go_quiet ((go_at_call 79; with_reducible exact same_quiet2 (q.out _ _)))
            clear e2 e4
            go_wp2
            go_ret
            exact ⟨ret_b (by rw [hv.out]), _, World.drewN_drewN _ _ _⟩
          · have hnext : Hid (Inc m (l.take (k + 1))) := by
              have h1 := ha.out
              rw [show k = k - 1 + 1 by omega] at h1 ⊢
              exact h1.step hy (by rw [show k - 1 + 1 = k by omega]; exact hx) hr (by omega)
            clear hx hy hr
            go_wp2
            go_quiet ((go_at_call 79; with_reducible exact same_quiet2 (q.out _ _)))
            clear e2 e4
            go_wp2
            go_roundw
            case rel => exact ⟨k + 1, by omega, by go_num, ⟨_, rfl⟩, hnext⟩
            case measure => simp [intOf]; omega
        · have hnext : Hid (Inc m (l.take (k + 1))) := by
            have : k = 0 := by omega
            subst this
            exact Inc.one hx hr
          have e1 : decide ((0 : Int) < (k : Int)) = false := decide_eq_false (by omega)
          subst eA
          clear h hx hr
          go_wp2
          go_quiet ((go_at_call 79; with_reducible exact same_quiet2 (q.out _ _)))
          go_wp2
          go_roundw
          case rel => exact ⟨k + 1, by omega, by go_num, ⟨_, rfl⟩, hnext⟩
          case measure => simp [intOf]; omega
      · have hin : inB x 0 ((m : Int) - 1) = false := inB_false.2 (by omega)
        have hv : Hid (decide (Inc m l) = false) := decide_eq_false (Inc.bad hx hr)
        subst eA
        clear h hx hr
        go_wp2
        go_quiet ((go_at_call 79; with_reducible exact same_quiet2 (q.out _ _)))
        go_wp2
        go_ret
        exact ⟨ret_b (by rw [hv.out]), _, World.drewN_drewN _ _ _⟩
    · have hkn : k = n := by omega
      subst hkn
      have ha' := ha.out
      rw [List.take_of_length_le (by rw [hlen.out]; exact Nat.le_refl _)] at ha'
      have hv : Hid (decide (Inc m l) = true) := decide_eq_true ha'
      clear h ha ha'
      go_wp2
      go_ret
      exact ⟨ret_b (by rw [hv.out]), _, rfl⟩

end Go.Proofs.Ytbnneahjjcamlaa
