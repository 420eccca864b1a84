/-
  Solving an equation system, by the program and by the reference. Conditions: at most 1048576 equations (systems that are not valid are refused).
-/
import Derived.Test.YtbnneahjjcamlaaGameS
import Derived.Test.YtbnneahjjcamlaaWinI
import Derived.Test.YtbnneahjjcamlaaBoilB
namespace Go.Proofs.Ytbnneahjjcamlaa
open Go.ChangeShapes Go.WideShapes Go.ChangeAt Go.RowKit
set_option linter.unusedVariables false

theorem eqz (x : Int) : (x == 0) = decide (x = 0) := by by_cases h : x = 0 <;> simp [h]
theorem take_map_succ {l : List Int} {k : Nat} {x : Int} (hx : l[k]? = some x) : (l.take (k + 1)).map (fun x => x == 0) = (l.take k).map (fun x => x == 0) ++ [x == 0] := by
  rw [List.take_add_one, hx, List.map_append]
  rfl

set_option maxHeartbeats 1600000 in
set_option maxRecDepth 100000 in
theorem l22Solve_calls (A : Option Addr) (n c : Nat) (e : DE) (w : World) (h : EqsAt w A n e) (ok : EqOk e) :
    Calls Try.prog 50 #[.slice A n c] w fun r w' => ∃ A' c', r = .returned (.slice A' n c') ∧ SlB w' w.heap.size w'.heap.size A' n (solveF e) ∧ Below w.heap.size w w' := by
  have hel := h.len
  have hn : 0 < n ∧ n ≤ 120 := by have := ok.1; omega
  obtain ⟨hn0, hn1⟩ := hn
  have q0 := hide (l22Game_calls A n c e w h ⟨hn0, by omega⟩)
  have gok := hide (eqGame_ok ok)
  have hE := hide elem_bool
  replace hel := hide hel
  clear h ok
  go_enter Try.func50, Try.ntmps50
  go_wp2_with fail
  refine q0.out.mono ?_
  rintro r w1 ⟨A1, c1, rfl, hg, bel1⟩
  have q1 := hide (l23Winners_calls A1 n c1 (eqGame e) w1 hg gok.out)
  clear hg q0
  go_wp2_with fail
  refine q1.out.mono ?_
  rintro r w2 ⟨A2, c2, rfl, hs2, hb2⟩
  have bel2 := bel1.trans (hb2.mono bel1.size)
  have hv : Hid (solveF e = (winnersF (eqGame e)).map fun x => x == 0) := rfl
  have hlen := hide hs2.len
  generalize winnersF (eqGame e) = l at *
  obtain ⟨b2, o2, rfl, g1, g2, g3, -⟩ := hs2.at_ hn0
  replace hs2 := hide hs2
  have hz2 := bel2.size
  clear q1 hb2
  go_wp2_with fail
  go_loopw [4, 5] (fun v i wr => ∃ (k : Nat) (Ao : Option Addr) (co : Nat), k ≤ n ∧ i = .int .i64 k ∧ v = .slice Ao k co ∧ Own 1 bv wr w2.heap.size 4 Ao k co ((l.take k).map fun x => x == 0) ∧ Below w2.heap.size w2 wr) (fun _ i _ => n - (intOf i).toNat)
  case atStart => exact ⟨0, _, 0, Nat.zero_le _, rfl, rfl, Own.made _ _ (Nat.le_refl _), (Below.refl _ _).alloc (Nat.le_refl _) _⟩
  case round =>
    obtain ⟨k, Ao, co, hk, rfl, rfl, hown, hb⟩ := hrel
    replace hown := hide hown
    by_cases hlt : k < n
    · obtain ⟨x, hx, d0, -⟩ := SlI.cell (Sl.below hs2.out hb (.inr (Nat.le_refl _))) hlt
      have hst := hide (take_map_succ hx)
      have hz := hb.size
      have hk1 : (0 : Int) ≤ (k : Int) := by omega
      have hk2 : (k : Int) < (n : Int) := by omega
      clear hx
      go_wp2_with (first | (at_builtin; (with_reducible refine wpList_app rfl (.tmp 16) (.tmp 22) rfl hE.out flat_bv rfl (hown.out.alloc _) rfl (Sl.lit1' wr 4 (x == 0) _ rfl 1 _ ?c0) ?c1 (le_alloc hz) ?_); rotate_right; intro A5 c5 w5 hown5 hgr5 hb5 _))
      case c0 => rfl
      case c1 => omega
      go_roundw
      case rel => exact ⟨k + 1, A5, c5, by omega, by go_num, rfl, by rw [hst.out]; exact hown5, (hb.alloc hz _).trans hb5⟩
      case measure => simp [intOf]; omega
    · have hkn : k = n := by omega
      subst hkn
      have hall : Hid (solveF e = (l.take k).map fun x => x == 0) := by show _ = _; rw [hv.out, List.take_of_length_le (by rw [hlen.out]; exact Nat.le_refl _)]
      go_wp2
      go_ret
      exact ⟨_, _, rfl, by rw [hall.out]; exact (hown.out.sl flat_bv).more hz2 (Nat.le_refl _), bel2.trans (hb.mono hz2)⟩

set_option maxHeartbeats 1600000 in
set_option maxRecDepth 100000 in
theorem solve_calls (A : Option Addr) (n c : Nat) (e : DE) (w : World) (h : EqsAt w A n e) (ok : EqOk e) :
    Calls Try.prog 53 #[.slice A n c] w fun r w' => ∃ A' c', r = .returned (.slice A' n c') ∧ SlB w' w.heap.size w'.heap.size A' n (solveF e) ∧ Below w.heap.size w w' := by
  have hel := h.len
  have hn : 0 < n ∧ n ≤ 120 := by have := ok.1; omega
  obtain ⟨hn0, hn1⟩ := hn
  have q0 := hide (game_calls A n c e w h ⟨hn0, by omega⟩)
  have gok := hide (eqGame_ok ok)
  have hgl := hide (show (eqGame e).length = n by rw [eqGame_len, hel])
  have hE := hide elem_bool
  clear h ok hel
  go_enter Try.func53, Try.ntmps53
  go_wp2_with fail
  refine q0.out.mono ?_
  rintro r w1 ⟨A1, c1, rfl, hg, bel1⟩
  have q1 := winners_calls A1 c1 (eqGame e) w1 (by rw [hgl.out]; exact hg) gok.out
  rw [hgl.out] at q1
  replace q1 := hide q1
  clear hg q0 hgl
  go_wp2_with fail
  refine q1.out.mono ?_
  rintro r w2 ⟨A2, c2, rfl, hs2, hb2⟩
  have bel2 := bel1.trans (hb2.mono bel1.size)
  have hv : Hid (solveF e = (winnersF (eqGame e)).map fun x => x == 0) := rfl
  have hlen := hide hs2.len
  generalize winnersF (eqGame e) = l at *
  obtain ⟨b2, o2, rfl, g1, g2, g3, -⟩ := hs2.at_ hn0
  replace hs2 := hide hs2
  have hz2 := bel2.size
  clear q1 hb2
  go_wp2_with fail
  go_loopw [3, 10] (fun v i wr => ∃ (k : Nat) (Ao : Option Addr) (co : Nat), k ≤ n ∧ i = .int .i64 k ∧ v = .slice Ao k co ∧ Own 1 bv wr w2.heap.size 4 Ao k co ((l.take k).map fun x => x == 0) ∧ Below w2.heap.size w2 wr) (fun _ i _ => n - (intOf i).toNat)
  case atStart => exact ⟨0, none, 0, Nat.zero_le _, rfl, rfl, Own.nil_ _ _ _, Below.refl _ _⟩
  case round =>
    obtain ⟨k, Ao, co, hk, rfl, rfl, hown, hb⟩ := hrel
    replace hown := hide hown
    by_cases hlt : k < n
    · obtain ⟨x, hx, d0, -⟩ := SlI.cell (Sl.below hs2.out hb (.inr (Nat.le_refl _))) hlt
      have hst := hide (take_map_succ hx)
      have hz := hb.size
      have hk1 : (0 : Int) ≤ (k : Int) := by omega
      have hk2 : (k : Int) < (n : Int) := by omega
      clear hx
      go_wp2_with (first | (at_builtin; (with_reducible refine wpList_app rfl (.tmp 14) (.tmp 17) rfl hE.out flat_bv rfl (hown.out.alloc _) rfl (Sl.lit1' wr 4 (x == 0) _ rfl 1 _ ?c0) ?c1 (le_alloc hz) ?_); rotate_right; intro A5 c5 w5 hown5 hgr5 hb5 _))
      case c0 => rfl
      case c1 => omega
      go_roundw
      case rel => exact ⟨k + 1, A5, c5, by omega, by go_num, rfl, by rw [hst.out]; exact hown5, (hb.alloc hz _).trans hb5⟩
      case measure => simp [intOf]; omega
    · have hkn : k = n := by omega
      subst hkn
      have hall : Hid (solveF e = (l.take k).map fun x => x == 0) := by show _ = _; rw [hv.out, List.take_of_length_le (by rw [hlen.out]; exact Nat.le_refl _)]
      go_wp2
      go_ret
      exact ⟨_, _, rfl, by rw [hall.out]; exact (hown.out.sl flat_bv).more hz2 (Nat.le_refl _), bel2.trans (hb.mono hz2)⟩

set_option maxRecDepth 100000 in
theorem specSolveEquations_u {v : Value} {d : DE} {w : World} {lo hi : Nat} (h : FreshE w lo hi v d) :
    Calls Try.prog 20 #[v] w fun e w' => ∃ r, e = .returned (.tuple #[r, .int .i64 (solveEquationsF d).2]) ∧ ResB w' w.heap.size w'.heap.size r (solveEquationsF d).1 ∧ Below w.heap.size w w' := by
  obtain ⟨A, n, R, rfl, hN, rfl, ht⟩ := h
  have htot := totE_of hN.all
  have hn : n ≤ 1048576 := by omega
  have hg := FreshE.eqs hN
  have q := l22Is_calls A n n (R.map dE) w hg hn
  by_cases c : decide (EqOk (R.map dE)) = true
  · rw [c] at q
    replace q := hide q
    have hval : Hid (solveEquationsF (R.map dE) = (solveF (R.map dE), 0)) := by show _ = _; unfold solveEquationsF; rw [if_pos c]
    have q2 := hide (fun N => l22Solve_calls A n n (R.map dE) (w.drewN N) (hg.drewN N) (of_decide_eq_true c))
    clear c hg hN htot
    rw [hval.out]
    go_enter Try.func20, Try.ntmps20
    go_wp2_with fail
    refine q.out.mono ?_
    rintro e w1 ⟨rfl, N, rfl⟩
    go_wp2_with fail
    refine (q2.out N).mono ?_
    rintro e w2 ⟨A2, c2, rfl, hs, hb⟩
    replace hs := hide hs
    have hb1 := below_drewN w N
    go_wp2_with fail
    go_ret2
    exact ⟨_, rfl, ⟨A2, _, c2, rfl, hn, hs.out⟩, hb1.trans hb⟩
  · replace c := Bool.eq_false_iff.2 c
    rw [c] at q
    replace q := hide q
    have hval : Hid (solveEquationsF (R.map dE) = ([], 1)) := by show _ = _; unfold solveEquationsF; rw [c]; rfl
    clear c hg hN htot
    rw [hval.out]
    go_enter Try.func20, Try.ntmps20
    go_wp2_with fail
    refine q.out.mono ?_
    rintro e w1 ⟨rfl, N, rfl⟩
    have hb1 := below_drewN w N
    go_wp2_with fail
    go_ret2
    exact ⟨_, rfl, ⟨none, 0, 0, rfl, Nat.zero_le _, Sl.nil_⟩, hb1⟩

set_option maxRecDepth 100000 in
theorem implSolveEquations_u {v : Value} {d : DE} {w : World} {lo hi : Nat} (h : FreshE w lo hi v d) :
    Calls Try.prog 22 #[v] w fun e w' => ∃ r, e = .returned (.tuple #[r, .int .i64 (solveEquationsF d).2]) ∧ ResB w' w.heap.size w'.heap.size r (solveEquationsF d).1 ∧ Below w.heap.size w w' := by
  obtain ⟨A, n, R, rfl, hN, rfl, ht⟩ := h
  have htot := totE_of hN.all
  have hn : n ≤ 1048576 := by omega
  have q := validEquations_calls A n n R w lo hi hN.all hn
  have hg := FreshE.eqs hN
  by_cases c : decide (EqOk (R.map dE)) = true
  · rw [c] at q
    replace q := hide q
    have hval : Hid (solveEquationsF (R.map dE) = (solveF (R.map dE), 0)) := by show _ = _; unfold solveEquationsF; rw [if_pos c]
    have q2 := hide (fun W (hW : Below w.heap.size w W) => solve_calls A n n (R.map dE) W (hg.below hW (Nat.le_refl _)) (of_decide_eq_true c))
    clear c hg hN htot
    rw [hval.out]
    go_enter Try.func22, Try.ntmps22
    go_wp2_with fail
    refine q.out.mono ?_
    rintro e w1 ⟨rfl, hb1⟩
    go_wp2_with fail
    refine (q2.out _ hb1).mono ?_
    rintro e w2 ⟨A2, c2, rfl, hs, hb⟩
    replace hs := hide hs
    go_wp2_with fail
    go_ret2
    exact ⟨_, rfl, ⟨A2, _, c2, rfl, hn, hs.out.more hb1.size (Nat.le_refl _)⟩, hb1.trans (hb.mono hb1.size)⟩
  · replace c := Bool.eq_false_iff.2 c
    rw [c] at q
    replace q := hide q
    have hval : Hid (solveEquationsF (R.map dE) = ([], 1)) := by show _ = _; unfold solveEquationsF; rw [c]; rfl
    clear c hg hN htot
    rw [hval.out]
    go_enter Try.func22, Try.ntmps22
    go_wp2_with fail
    refine q.out.mono ?_
    rintro e w1 ⟨rfl, hb1⟩
    go_wp2_with fail
    go_ret2
    exact ⟨_, rfl, ⟨none, 0, 0, rfl, Nat.zero_le _, Sl.nil_⟩, hb1⟩

end Go.Proofs.Ytbnneahjjcamlaa
