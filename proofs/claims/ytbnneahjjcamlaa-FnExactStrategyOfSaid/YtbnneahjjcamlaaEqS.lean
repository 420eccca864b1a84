/-
  The reference's test of an equation system. Conditions: at most 1048576 equations.
-/
import Derived.Test.YtbnneahjjcamlaaFuncsE
import Derived.Test.YtbnneahjjcamlaaValid2
namespace Go.Proofs.Ytbnneahjjcamlaa
open Go.ChangeShapes Go.WideShapes Go.ChangeAt Go.RowKit
set_option linter.unusedVariables false

/-- A system lies here. -/
def EqsAt (w : World) (A : Option Addr) (n : Nat) (e : DE) : Prop := ∃ R, RowsE 1048576 w 0 w.heap.size A n R ∧ R.map dE = e ∧ n = e.length
section
variable {w w' : World} {A : Option Addr} {n b off k : Nat} {e : DE}
theorem EqsAt.len (h : EqsAt w A n e) : n = e.length := by obtain ⟨R, _, _, h⟩ := h; exact h
theorem EqsAt.below {B : Nat} (h : EqsAt w A n e) (hb : Below B w w') (hB : w.heap.size ≤ B) : EqsAt w' A n e := by
  obtain ⟨R, h1, h2, h3⟩ := h
  exact ⟨R, (h1.below hb (.inl hB)).more (Nat.le_refl _) hb.size, h2, h3⟩
theorem EqsAt.drewN (h : EqsAt w A n e) (k : Nat) : EqsAt (w.drewN k) A n e := h.below (below_drewN w k) (Nat.le_refl _)
theorem EqsAt.addr (h : EqsAt w A n e) (hn : 0 < n) : ∃ b off, A = some ⟨b, off, none⟩ ∧ b < w.heap.size := by
  obtain ⟨R, h1, _⟩ := h
  obtain ⟨b, off, e, _, _, h3, _⟩ := h1.outer.at_ hn
  exact ⟨b, off, e, h3⟩
/-- Equation k. -/
theorem EqsAt.cell (h : EqsAt w (some ⟨b, off, none⟩) n e) (hk : k < n) :
    ∃ x y l Ah nh ch, e[k]? = some (x, y, l) ∧ w.cell? ⟨b, off + k * 3, none⟩ = some (.bool x) ∧ w.cell? ⟨b, off + k * 3 + 1, none⟩ = some (.bool y) ∧ w.cell? ⟨b, off + k * 3 + 2, none⟩ = some (.slice Ah nh ch) ∧
      SlI w 0 w.heap.size Ah nh l ∧ nh ≤ 1048576 := by
  obtain ⟨R, h1, rfl, h3⟩ := h
  obtain ⟨b', off', x, y, Ah, nh, ch, l, e, g1, g2, g3, hx, c0, c1, c2, -, -, hs, hn⟩ := h1.atE hk
  cases e
  have hx2 : (R.map dE)[k]? = some (x, y, l) := by rw [List.getElem?_map, hx]; rfl
  exact ⟨x, y, l, Ah, nh, ch, hx2, c0, c1, c2, hs, hn⟩
end
theorem FreshE.eqs {w : World} {lo hi n : Nat} {A : Option Addr} {R : List (CE × List Int)} (h : NestE w lo hi A n R) : EqsAt w A n (R.map dE) :=
  ⟨R, (h.all.top.more (Nat.zero_le _) (Nat.le_refl _)), rfl, by rw [List.length_map, h.len]⟩

theorem blockNo_succ {e : DE} {k : Nat} (hk : 1 ≤ k) : blockNo e k = blockNo e (k - 1) + if eGr e k != eGr e (k - 1) then 1 else 0 := by
  obtain ⟨j, rfl⟩ : ∃ j, k = j + 1 := ⟨k - 1, by omega⟩
  rfl

set_option maxRecDepth 100000 in
theorem l22Count_calls (A : Option Addr) (n c : Nat) (e : DE) (w : World) (h : EqsAt w A n e) (hn : 0 < n ∧ n ≤ 1048576) :
    Calls Try.prog 107 #[.slice A n c] w fun r w' => r = .returned (.int .i64 ((blockNo e (n - 1) : Int) + 1)) ∧ ∃ N, w' = w.drewN N := by
  obtain ⟨hn0, hn1⟩ := hn
  obtain ⟨b, off, rfl, hbl⟩ := h.addr hn0
  replace h := hide h
  go_enter Try.func107, Try.ntmps107
  go_wp2
  go_loopw [3, 4] (fun s i wr => ∃ k : Nat, 1 ≤ k ∧ k ≤ n ∧ i = .int .i64 k ∧ s = .int .i64 ((blockNo e (k - 1) : Int) + 1) ∧ ∃ N, wr = w.drewN N) (fun _ i _ => n - (intOf i).toNat)
  case atStart => exact ⟨1, Nat.le_refl _, by omega, rfl, rfl, 0, rfl⟩
  case round =>
    obtain ⟨k, hk0, hk, rfl, rfl, N, rfl⟩ := hrel
    have hle := blockNo_le e (k - 1)
    have hsu := blockNo_succ (e := e) hk0
    by_cases hlt : k < n
    · obtain ⟨x, y, l, Ah, nh, ch, hx, c0, -⟩ := h.out.cell hlt
      obtain ⟨x', y', l', Ah', nh', ch', hx', c0', -⟩ := h.out.cell (show k - 1 < n by omega)
      rw [eGr_at hx, eGr_at hx'] at hsu
      have hk1 : (0 : Int) ≤ (k : Int) := by omega
      have hk2 : (k : Int) < (n : Int) := by omega
      have e2 : IntKind.i64.wrap ((k : Int) - 1) = (k : Int) - 1 := IntWalk.i64_in _ (by omega)
      have e3 : 0 ≤ (k : Int) - 1 := by omega
      have e4 : ((k : Int) - 1).toNat = k - 1 := by omega
      have e5 : (k : Int) - 1 < n := by omega
      clear h hx hx'
      generalize blockNo e (k - 1) = p at *
      cases x <;> cases x'
      all_goals
        simp only [bne_self_eq_false, Bool.false_eq_true, if_false, if_true, Bool.true_bne, Bool.false_bne, Bool.not_true, Bool.not_false, Nat.add_zero] at hsu
        replace hsu := hide hsu
        go_wp2
        go_quiet (fail)
        clear e2 e4
        go_wp2
        go_roundw
        case rel => exact ⟨k + 1, by omega, by omega, by go_num, by first | (rw [show k + 1 - 1 = k from rfl, hsu.out]; go_num) | rw [show k + 1 - 1 = k from rfl, hsu.out], _, rfl⟩
        case measure => simp [intOf]; omega
    · have hkn : k = n := by omega
      subst hkn
      clear h
      go_wp2
      go_ret
      exact ⟨rfl, N, rfl⟩

set_option maxHeartbeats 1600000 in
set_option maxRecDepth 100000 in
theorem l22Is_calls (A : Option Addr) (n c : Nat) (e : DE) (w : World) (h : EqsAt w A n e) (hn : n ≤ 1048576) :
    Calls Try.prog 49 #[.slice A n c] w fun r w' => r = .returned (.bool (decide (EqOk e))) ∧ ∃ N, w' = w.drewN N := by
  have hlen := h.len
  by_cases h0 : n < 1
  · have hv : Hid (decide (EqOk e) = false) := decide_eq_false fun hg => by have := hg.1.1; omega
    have e0 : (n : Int) < 1 := by omega
    clear h hlen h0
    go_enter Try.func49, Try.ntmps49
    go_wp2
    go_ret
    exact ⟨ret_b (by rw [hv.out]), 0, rfl⟩
  have e0 : ¬ (n : Int) < 1 := by omega
  by_cases h1 : 120 < n
  · have hv : Hid (decide (EqOk e) = false) := decide_eq_false fun hg => by have := hg.1.2; omega
    have e1 : (120 : Int) < (n : Int) := by omega
    clear h hlen h0 h1
    go_enter Try.func49, Try.ntmps49
    go_wp2
    go_ret
    exact ⟨ret_b (by rw [hv.out]), 0, rfl⟩
  have e1 : ¬ (120 : Int) < (n : Int) := by omega
  have q0 := hide (l22Count_calls A n c e w h ⟨by omega, hn⟩)
  have hbn := blockNo_le e (n - 1)
  by_cases h2 : blockNo e (n - 1) < 9
  · have e2 : ¬ (9 : Int) < (blockNo e (n - 1) : Int) + 1 := by omega
    have hgame := eqok_any (e := e) (by rw [← hlen]; omega) (by rw [← hlen]; exact h2)
    rw [← hlen] at hgame
    obtain ⟨b, off, rfl, hbl⟩ := h.addr (by omega)
    generalize blockNo e (n - 1) = p at *
    replace h := hide h
    replace hgame := hide hgame
    replace hlen := hide hlen
    clear h0 h1 h2
    go_enter Try.func49, Try.ntmps49
    go_wp2_with (first | (go_at_call 107; (with_reducible refine q0.out.mono ?_); rintro r w' ⟨rfl, N0, rfl⟩))
    go_loopw [3] (fun i wr => ∃ k : Nat, k ≤ n ∧ i = .int .i64 k ∧ (∃ N, wr = w.drewN N) ∧ Hid ((e.take k).any (fun x => !decide (Inc n x.2.2)) = false)) (fun i _ => n - (intOf i).toNat)
    case atStart => exact ⟨0, Nat.zero_le _, rfl, ⟨N0, rfl⟩, rfl⟩
    case round =>
      obtain ⟨k, hk, rfl, ⟨N, rfl⟩, ha⟩ := hrel
      clear q0
      by_cases hlt : k < n
      · obtain ⟨x, y, l, Ah, nh, ch, hx, c0, c1, c2, hs, hnh⟩ := h.out.cell hlt
        have hx2 := hide hx
        have q := rises_calls Ah nh ch l n hn (w.drewN N) _ _ (hs.drewN N) (by unfold maxLen; omega)
        clear h hx hs
        by_cases z2 : decide (Inc n l) = true
        · rw [z2] at q
          replace q := hide q
          have hy := hide (any_take_succ ha.out hx2.out (G := fun x => !decide (Inc n x.2.2)) (by show (!decide (Inc n l)) = false; rw [z2]; rfl))
          clear z2
          go_wp2_with (first | (go_at_call 80; (with_reducible refine q.out.mono ?_); rintro r w' ⟨rfl, N2, rfl⟩))
          go_roundw
          case rel => exact ⟨k + 1, by omega, by go_num, ⟨_, rfl⟩, hy⟩
          case measure => simp [intOf]; omega
        · replace z2 := Bool.eq_false_iff.2 z2
          rw [z2] at q
          replace q := hide q
          have hy := hide (any_hit hx2.out (G := fun x => !decide (Inc n x.2.2)) (by show (!decide (Inc n l)) = true; rw [z2]; rfl))
          clear z2
          go_wp2_with (first | (go_at_call 80; (with_reducible refine q.out.mono ?_); rintro r w' ⟨rfl, N2, rfl⟩))
          go_ret
          exact ⟨ret_b (by rw [hgame.out, hy.out]; rfl), _, rfl⟩
      · have hkn : k = n := by omega
        subst hkn
        have ha' := ha.out
        rw [List.take_of_length_le (by rw [← hlen.out]; exact Nat.le_refl _)] at ha'
        replace ha' := hide ha'
        clear h
        go_wp2
        go_ret
        exact ⟨ret_b (by rw [hgame.out, ha'.out]; rfl), _, rfl⟩
  · have e2 : (9 : Int) < (blockNo e (n - 1) : Int) + 1 := by omega
    have hv : Hid (decide (EqOk e) = false) := decide_eq_false fun hg => by have := hg.2.1; rw [← hlen] at this; omega
    generalize blockNo e (n - 1) = p at *
    clear h hlen h0 h1 h2
    go_enter Try.func49, Try.ntmps49
    go_wp2_with (first | (go_at_call 107; (with_reducible refine q0.out.mono ?_); rintro r w' ⟨rfl, N0, rfl⟩))
    go_ret
    exact ⟨ret_b (by rw [hv.out]), _, rfl⟩

end Go.Proofs.Ytbnneahjjcamlaa
