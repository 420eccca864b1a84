/-
  slices.IndexFunc and slices.ContainsFunc on lists of equations at whatever function value that answers a bool and changes nothing that was there. Conditions: at most 1048576 elements.
-/
import Derived.Test.YtbnneahjjcamlaaKindE
import Derived.Test.YtbnneahjjcamlaaSays
namespace Go.Proofs.Ytbnneahjjcamlaa
open Go.ChangeShapes Go.WideShapes Go.ChangeAt Go.RowKit
set_option linter.unusedVariables false

set_option maxRecDepth 100000 in
theorem indexFuncE_calls (F : FuncId) (caps : Array Value) (G : Ex → Bool) (A : Option Addr) (n c : Nat) (R : List (CE × List Int)) (w : World) (lo hi : Nat) (h : RowsE 1048576 w lo hi A n R) (hn : n ≤ 1048576)
    (hF : ∀ (v : Value) (W : World), Sem.run Try.prog (callFunc F (#[v] ++ caps)) W = .ok (.enter F (#[v] ++ caps)) W)
    (hcl : ∀ (x y : Bool) (Ah : Option Addr) (nh ch : Nat) (s : List Int) (W : World), Below w.heap.size w W → SlI W lo hi Ah nh s → nh ≤ 1048576 → Calls Try.prog F (#[.agg #[.bool x, .bool y, .slice Ah nh ch]] ++ caps) W (Says (G (x, y, s)) W)) :
    Calls Try.prog 138 #[.slice A n c, .func (.func F) #[] caps] w fun e w' => ∃ i : Int, e = .returned (.int .i64 i) ∧ decide (0 ≤ i) = (R.map dE).any G ∧ Below w.heap.size w w' := by
  have hlen := hide h.len
  replace hcl := hide hcl
  replace h := hide h
  go_enter Try.func138, Try.ntmps138
  go_wp2
  go_loopw [8] (fun i wr => ∃ k : Nat, k ≤ n ∧ i = .int .i64 k ∧ Below w.heap.size w wr ∧ Hid (((R.map dE).take k).any G = false)) (fun i _ => n - (intOf i).toNat)
  case atStart => exact ⟨0, Nat.zero_le _, rfl, Below.refl _ _, rfl⟩
  case round =>
    obtain ⟨k, hk, rfl, hb, ha⟩ := hrel
    by_cases hlt : k < n
    · obtain ⟨b, off, x, y, Ah, nh, ch, s, rfl, g1, g2, g3, hx, c0, c1, c2, -, -, hs, hnh⟩ := (h.out.below hb (.inr (Nat.le_refl _))).atE hlt
      have hx2 := hide (show (R.map dE)[k]? = some (x, y, s) by rw [List.getElem?_map, hx]; rfl)
      have hc := hcl.out x y Ah nh ch s wr hb hs hnh
      clear h hcl hx hs
      by_cases hg : G (x, y, s) = true
      · rw [hg] at hc
        replace hc := hide hc
        have hy := hide (any_hit hx2.out hg)
        clear hg
        go_wp2_with fail
        refine hc.out.mono ?_
        rintro e w1 ⟨rfl, hb1⟩
        go_wp2_with fail
        go_ret
        exact ⟨_, rfl, by rw [hy.out]; simp, hb.trans (hb1.mono hb.size)⟩
      · replace hg := Bool.eq_false_iff.2 hg
        rw [hg] at hc
        replace hc := hide hc
        have hy := hide (any_take_succ ha.out hx2.out hg)
        clear hg
        go_wp2_with fail
        refine hc.out.mono ?_
        rintro e w1 ⟨rfl, hb1⟩
        go_wp2_with fail
        go_roundw
        case rel => exact ⟨k + 1, by omega, by go_num, hb.trans (hb1.mono hb.size), hy⟩
        case measure => simp [intOf]; omega
    · have hkn : k = n := by omega
      subst hkn
      clear hcl h
      go_wp2
      go_ret
      have hy := ha.out
      rw [List.take_of_length_le (by rw [List.length_map, hlen.out]; exact Nat.le_refl _)] at hy
      exact ⟨_, rfl, by rw [hy]; decide, hb⟩

theorem containsFuncE_calls (F : FuncId) (caps : Array Value) (G : Ex → Bool) (A : Option Addr) (n c : Nat) (R : List (CE × List Int)) (w : World) (lo hi : Nat) (h : RowsE 1048576 w lo hi A n R) (hn : n ≤ 1048576)
    (hF : ∀ (v : Value) (W : World), Sem.run Try.prog (callFunc F (#[v] ++ caps)) W = .ok (.enter F (#[v] ++ caps)) W)
    (hcl : ∀ (x y : Bool) (Ah : Option Addr) (nh ch : Nat) (s : List Int) (W : World), Below w.heap.size w W → SlI W lo hi Ah nh s → nh ≤ 1048576 → Calls Try.prog F (#[.agg #[.bool x, .bool y, .slice Ah nh ch]] ++ caps) W (Says (G (x, y, s)) W)) :
    Calls Try.prog 110 #[.slice A n c, .func (.func F) #[] caps] w (Says ((R.map dE).any G) w) := by
  have q := hide (indexFuncE_calls F caps G A n c R w lo hi h hn hF hcl)
  clear h hF hcl
  go_enter Try.func110, Try.ntmps110
  go_wp2_with fail
  refine q.out.mono ?_
  rintro e w1 ⟨i, rfl, hi, hb⟩
  replace hi := hide hi
  go_wp2_with fail
  go_ret
  exact ⟨ret_b hi.out.symm, hb⟩

end Go.Proofs.Ytbnneahjjcamlaa
