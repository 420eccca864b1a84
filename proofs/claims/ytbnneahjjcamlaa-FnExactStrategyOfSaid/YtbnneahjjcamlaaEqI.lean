/-
  The program's test of an equation system. Conditions: at most 1048576 equations.
-/
import Derived.Test.YtbnneahjjcamlaaEqS
namespace Go.Proofs.Ytbnneahjjcamlaa
open Go.ChangeShapes Go.WideShapes Go.ChangeAt Go.RowKit
set_option linter.unusedVariables false

theorem last_calls (A : Option Addr) (n c : Nat) (l : List Int) (x : Int) (w : World) (lo hi : Nat) (h : SlI w lo hi A n l) (hn : 0 < n ∧ n ≤ 1048576) (hx : l[n - 1]? = some x) :
    Calls Try.prog 136 #[.slice A n c] w fun r w' => r = .returned (.int .i64 x) ∧ w' = w := by
  obtain ⟨hn0, hn1⟩ := hn
  obtain ⟨b, off, y, rfl, g1, g2, g3, hy, c0, -⟩ := h.get (show n - 1 < n by omega)
  rw [hx] at hy
  cases hy
  have e1 : (0 : Int) ≤ (n : Int) - 1 := by omega
  have e2 : ((n : Int) - 1).toNat = n - 1 := by omega
  have e3 : (n : Int) - 1 < n := by omega
  clear h hx
  go_enter Try.func136, Try.ntmps136
  go_wp2
  go_ret
  exact ⟨rfl, rfl⟩

theorem blocksF_len (e : DE) (k : Nat) : (blocksF e k).length = k := by simp [blocksF]
theorem blocksF_at (e : DE) {k i : Nat} (h : i < k) : (blocksF e k)[i]? = some (blockNo e i : Int) := by simp [blocksF, List.getElem?_map, List.getElem?_range h]
theorem blocksF_succ (e : DE) (k : Nat) : blocksF e (k + 1) = blocksF e k ++ [(blockNo e k : Int)] := by simp [blocksF, List.range_succ]

set_option maxHeartbeats 1600000 in
set_option maxRecDepth 100000 in
theorem equationBlocks_calls (A : Option Addr) (n c : Nat) (e : DE) (w : World) (h : EqsAt w A n e) (hn : 0 < n ∧ n ≤ 1048576) :
    Calls Try.prog 137 #[.slice A n c] w fun r w' => ∃ A' c', r = .returned (.slice A' n c') ∧ SlI w' w.heap.size w'.heap.size A' n (blocksF e n) ∧ Below w.heap.size w w' := by
  obtain ⟨hn0, hn1⟩ := hn
  obtain ⟨b, off, rfl, hbl⟩ := h.addr hn0
  replace h := hide h
  have hE := hide elem_int64
  go_enter Try.func137, Try.ntmps137
  go_wp2
  go_loopw [3, 4, 9] (fun v s i wr => ∃ (k : Nat) (Ao : Option Addr) (co : Nat), k ≤ n ∧ i = .int .i64 k ∧ s = .int .i64 (blockNo e (k - 1) : Int) ∧ v = .slice Ao k co ∧ Own 1 iv wr w.heap.size 2 Ao k co (blocksF e k) ∧ Below w.heap.size w wr) (fun _ _ i _ => n - (intOf i).toNat)
  case atStart => exact ⟨0, none, 0, Nat.zero_le _, rfl, rfl, rfl, Own.nil_ _ _ _, Below.refl _ _⟩
  case round =>
    obtain ⟨k, Ao, co, hk, rfl, rfl, rfl, hown, hb⟩ := hrel
    replace hown := hide hown
    by_cases hlt : k < n
    · have hle := blockNo_le e k
      have hst := hide (blocksF_succ e k)
      have hr := h.out.below hb (Nat.le_refl _)
      obtain ⟨x, y, l, Ah, nh, ch, hx, c0, c1, c2, -⟩ := hr.cell hlt
      have hz := hb.size
      have hk1 : (0 : Int) ≤ (k : Int) := by omega
      have hk2 : (k : Int) < (n : Int) := by omega
      by_cases hk0 : 0 < k
      · obtain ⟨x', y', l', Ah', nh', ch', hx', c0', -⟩ := hr.cell (show k - 1 < n by omega)
        have hsu := blockNo_succ (e := e) (show 1 ≤ k from hk0)
        rw [eGr_at hx, eGr_at hx'] at hsu
        have e0 : decide ((0 : Int) < (k : Int)) = true := decide_eq_true (by omega)
        have e2 : IntKind.i64.wrap ((k : Int) - 1) = (k : Int) - 1 := IntWalk.i64_in _ (by omega)
        have e3 : 0 ≤ (k : Int) - 1 := by omega
        have e4 : ((k : Int) - 1).toNat = k - 1 := by omega
        have e5 : (k : Int) - 1 < n := by omega
        have c0a := (((Below.refl wr.heap.size wr).alloc (Nat.le_refl _) (.cells #[.bool x, .bool y, .slice Ah nh ch] 76)).cell (p := ⟨b, off + (k - 1) * 3, none⟩) (by show b < _; omega)).trans c0'
        have hle0 := blockNo_le e (k - 1)
        generalize hp : blockNo e (k - 1) = p at *
        have hpb : p ≤ 1048576 := by omega
        have hownN : Hid (∀ N, Own 1 iv ((wr.alloc (.cells #[.bool x, .bool y, .slice Ah nh ch] 76)).drewN N) w.heap.size 2 Ao k co (blocksF e k)) := fun N => hown.out.below (((Below.refl wr.heap.size wr).alloc (Nat.le_refl _) _).trans (below_drewN _ N |>.mono (by simp))) (Nat.le_refl _)
        have hbN : Hid (∀ N, Below w.heap.size w ((wr.alloc (.cells #[.bool x, .bool y, .slice Ah nh ch] 76)).drewN N)) := fun N => (hb.alloc hz _).trans ((below_drewN _ N).mono (by simp; omega))
        clear h hr hx hx' c0'
        cases x <;> cases x'
        all_goals
          simp only [bne_self_eq_false, Bool.false_eq_true, if_false, if_true, Bool.true_bne, Bool.false_bne, Bool.not_true, Bool.not_false, Nat.add_zero] at hsu
          replace hsu := hide hsu
          go_wp2
          go_quiet (fail)
          clear e2 e4
          go_wp2_with (first | (at_builtin; ((with_reducible refine wpList_app rfl (.tmp 29) (.tmp 31) rfl hE.out flat_iv rfl ((hownN.out _).alloc _) rfl (Sl.lit1' _ 2 (p : Int) _ rfl 1 _ ?c0) ?c1 ?c2 ?_); rotate_right; intro A5 c5 w5 hown5 hgr5 hb5 _)) | (at_builtin; ((with_reducible refine wpList_app rfl (.tmp 29) (.tmp 31) rfl hE.out flat_iv rfl ((hownN.out _).alloc _) rfl (Sl.lit1' _ 2 ((p : Int) + 1) _ rfl 1 _ ?c0) ?c1 ?c2 ?_); rotate_right; intro A5 c5 w5 hown5 hgr5 hb5 _)))
          case c0 => simp
          case c1 => omega
          case c2 => simp; omega
          go_roundw
          case rel => exact ⟨k + 1, A5, c5, by omega, by go_num, by first | (rw [show k + 1 - 1 = k from rfl, hsu.out]; done) | (rw [show k + 1 - 1 = k from rfl, hsu.out]; go_num), rfl, by rw [hst.out, hsu.out]; exact hown5, ((hbN.out _).alloc (hbN.out _).size _).trans hb5⟩
          case measure => simp [intOf]; omega
      · have hkz : k = 0 := by omega
        subst hkz
        have e0 : decide ((0 : Int) < ((0 : Nat) : Int)) = false := rfl
        simp only [Nat.zero_mul, Nat.add_zero] at c0 c1 c2
        have hownN : Hid (∀ N, Own 1 iv ((wr.alloc (.cells #[.bool x, .bool y, .slice Ah nh ch] 76)).drewN N) w.heap.size 2 Ao 0 co (blocksF e 0)) := fun N => hown.out.below (((Below.refl wr.heap.size wr).alloc (Nat.le_refl _) _).trans (below_drewN _ N |>.mono (by simp))) (Nat.le_refl _)
        have hbN : Hid (∀ N, Below w.heap.size w ((wr.alloc (.cells #[.bool x, .bool y, .slice Ah nh ch] 76)).drewN N)) := fun N => (hb.alloc hz _).trans ((below_drewN _ N).mono (by simp; omega))
        clear h hr hx
        go_wp2
        go_quiet (fail)
        go_wp2_with (first | (at_builtin; ((with_reducible refine wpList_app rfl (.tmp 29) (.tmp 31) rfl hE.out flat_iv rfl ((hownN.out _).alloc _) rfl (Sl.lit1' _ 2 (0 : Int) _ rfl 1 _ ?c0) ?c1 ?c2 ?_); rotate_right; intro A5 c5 w5 hown5 hgr5 hb5 _)))
        case c0 => simp
        case c1 => omega
        case c2 => simp; omega
        go_roundw
        case rel => exact ⟨1, A5, c5, by omega, rfl, rfl, rfl, by rw [hst.out]; exact hown5, ((hbN.out _).alloc (hbN.out _).size _).trans hb5⟩
        case measure => simp [intOf]; omega
    · have hkn : k = n := by omega
      subst hkn
      clear h
      go_wp2
      go_ret
      exact ⟨_, _, rfl, hown.out.sl flat_iv, hb⟩

end Go.Proofs.Ytbnneahjjcamlaa
