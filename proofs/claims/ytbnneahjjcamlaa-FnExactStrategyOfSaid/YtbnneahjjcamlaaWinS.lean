/-
  The reference's winners of a game. Conditions: none (games that are not valid are refused).
-/
import Derived.Test.YtbnneahjjcamlaaRegS
import Derived.Test.YtbnneahjjcamlaaResI
namespace Go.Proofs.Ytbnneahjjcamlaa
open Go.ChangeShapes Go.WideShapes Go.ChangeAt Go.RowKit
set_option linter.unusedVariables false

noncomputable def winnersOfF (g : DV) : List Int × Int := if decide (GameOk g) then (winnersF g, 0) else ([], 1)

theorem FreshV.game {w : World} {lo hi n : Nat} {A : Option Addr} {R : List (CV × List Int)} (h : NestV w lo hi A n R) : GameAt w A n (R.map dV) :=
  ⟨R, (h.all.top.more (Nat.zero_le _) (Nat.le_refl _)), rfl, by rw [List.length_map, h.len]⟩

theorem less_whole {g : DV} (z : List Bool) : (setOf g.length fun v => inS (setOf g.length fun _ => true) v && !inS z v) = setOf g.length fun v => !inS z v := setOf_congr fun v hv => by rw [inS_setOf]; simp [hv]
theorem ends_whole {g : DV} (o : Int) : (setOf g.length fun v => inS (setOf g.length fun _ => true) v && decide (gOwn g v = o) && (gNxt g v).isEmpty) = stuckF g o := setOf_congr fun v hv => by rw [inS_setOf]; simp [hv]

set_option maxHeartbeats 1600000 in
set_option maxRecDepth 100000 in
theorem l23Winners_calls (A : Option Addr) (n c : Nat) (g : DV) (w : World) (hg : GameAt w A n g) (ok : GameOk g) :
    Calls Try.prog 41 #[.slice A n c] w fun e w' => ∃ A' c', e = .returned (.slice A' n c') ∧ SlI w' w.heap.size w'.heap.size A' n (winnersF g) ∧ Below w.heap.size w w' := by
  have hgl := hg.len
  have hn : 0 < n ∧ n ≤ 120 := by have := ok.1; omega
  obtain ⟨hn0, hn1⟩ := hn
  have hE := hide elem_int64
  have hq := hide (l23Whole_calls n w (by omega))
  replace hg := hide hg
  replace hgl := hide hgl
  replace ok := hide ok
  go_enter Try.func41, Try.ntmps41
  go_wp2_with fail
  refine hq.out.mono ?_
  rintro e w1 ⟨A1, k1, rfl, hs1, bel1⟩
  have h1 : SetAt w1 A1 n (wholeF g) := by
    have := SlB.at_set hs1
    unfold wholeF
    rw [← hgl.out]
    exact this
  replace h1 := hide h1
  clear hs1 hq
  go_wp2_with fail
  refine (l23Ends_calls _ _ n _ _ g (wholeF g) 1 w1 (hg.out.below bel1 (Nat.le_refl _)) ok.out h1.out).mono ?_
  rintro e w2 ⟨A2, k2, rfl, hs2, hb2⟩
  have bel2 := bel1.trans (hb2.mono bel1.size)
  have h2 : SetAt w2 A2 n (stuckF g 1) := by
    have := SlB.at_set hs2
    rw [hgl.out] at this
    unfold wholeF at this
    rw [ends_whole] at this
    rw [hgl.out]
    exact this
  replace h2 := hide h2
  have h12 := hide (h1.out.below hb2 (Nat.le_refl _))
  clear hs2 h1 hb2
  go_wp2_with fail
  refine (l23Attract_calls _ _ _ n _ _ _ g (wholeF g) (stuckF g 1) 0 w2 (hg.out.below bel2 (Nat.le_refl _)) ok.out h12.out h2.out).mono ?_
  rintro e w3 ⟨A3, k3, rfl, hs3, hb3⟩
  have bel3 := bel2.trans (hb3.mono bel2.size)
  have h3 : Hid (SetAt w3 A3 n (zeroF g)) := SlB.at_set hs3
  have h13 := hide (h12.out.below hb3 (Nat.le_refl _))
  clear hs3 h12 h2 hb3
  go_wp2_with fail
  refine (l23Less_calls _ _ n _ _ (wholeF g) (zeroF g) w3 h13.out h3.out (by omega)).mono ?_
  rintro e w4 ⟨A4, k4, rfl, hs4, hb4⟩
  have bel4 := bel3.trans (hb4.mono bel3.size)
  have h4 : SetAt w4 A4 n (setOf g.length fun v => !inS (zeroF g) v) := by
    have := SlB.at_set hs4
    rw [hgl.out] at this
    unfold wholeF at this
    rw [less_whole] at this
    rw [hgl.out]
    exact this
  replace h4 := hide h4
  clear hs4 h13 h3 hb4
  have heq := winners_eq (g := g) ok.out.owned
  dsimp only at heq
  generalize (setOf g.length fun v => !inS (zeroF g) v) = rest at *
  go_wp2_with fail
  refine (l23Ends_calls _ _ n _ _ g rest 0 w4 (hg.out.below bel4 (Nat.le_refl _)) ok.out h4.out).mono ?_
  rintro e w5 ⟨A5, k5, rfl, hs5, hb5⟩
  have bel5 := bel4.trans (hb5.mono bel4.size)
  have h5 : SetAt w5 A5 n (setOf g.length fun v => inS rest v && decide (gOwn g v = 0) && (gNxt g v).isEmpty) := by
    have := SlB.at_set hs5
    rw [hgl.out] at this ⊢
    exact this
  replace h5 := hide h5
  have h45 := hide (h4.out.below hb5 (Nat.le_refl _))
  clear hs5 h4 hb5
  go_wp2_with fail
  refine (l23Attract_calls _ _ _ n _ _ _ g rest _ 1 w5 (hg.out.below bel5 (Nat.le_refl _)) ok.out h45.out h5.out).mono ?_
  rintro e w6 ⟨A6, k6, rfl, hs6, hb6⟩
  have bel6 := bel5.trans (hb6.mono bel5.size)
  have h6 := hide (SlB.at_set hs6)
  have h46 := hide (h45.out.below hb6 (Nat.le_refl _))
  clear hs6 h45 h5 hb6
  generalize attrF g rest 1 (setOf g.length fun v => inS rest v && decide (gOwn g v = 0) && (gNxt g v).isEmpty) = one at *
  go_wp2_with fail
  refine (l23Less_calls _ _ n _ _ rest one w6 h46.out h6.out (by omega)).mono ?_
  rintro e w7 ⟨A7, k7, rfl, hs7, hb7⟩
  have bel7 := bel6.trans (hb7.mono bel6.size)
  have h7 : SetAt w7 A7 n (setOf g.length fun v => inS rest v && !inS one v) := by
    have := SlB.at_set hs7
    rw [hgl.out] at this ⊢
    exact this
  replace h7 := hide h7
  have h67 := hide (h6.out.below hb7 (Nat.le_refl _))
  clear hs7 h46 h6 hb7
  go_wp2_with fail
  refine (l23Region_calls g.length _ _ n _ _ g _ w7 (hg.out.below bel7 (Nat.le_refl _)) ok.out h7.out (by have := numS_le (setOf g.length fun v => inS rest v && !inS one v); rw [setOf_len] at this; exact this)).mono ?_
  rintro e w8 ⟨A8, k8, rfl, hs8, hb8⟩
  have bel8 := bel7.trans (hb8.mono bel7.size)
  have h8 := hide (SlB.at_set hs8)
  have h68 := hide (h67.out.below hb8 (Nat.le_refl _))
  clear hs8 h67 h7 hb8
  generalize winF g g.length (setOf g.length fun v => inS rest v && !inS one v) = region at *
  replace heq := hide heq
  have hz8 := bel8.size
  go_wp2_with fail
  go_loopw [8, 9] (fun v i wr => ∃ (k : Nat) (Ao : Option Addr) (co : Nat), k ≤ n ∧ i = .int .i64 k ∧ v = .slice Ao k co ∧ Own 1 iv wr w8.heap.size 2 Ao k co ((List.range k).map fun v => if inS one v || inS region v then (1 : Int) else 0) ∧ Below w8.heap.size w8 wr) (fun _ i _ => n - (intOf i).toNat)
  case atStart => exact ⟨0, _, 0, Nat.zero_le _, rfl, rfl, Own.made w8 _ (Nat.le_refl _), (Below.refl _ _).alloc (Nat.le_refl _) _⟩
  case round =>
    obtain ⟨k, Ao, co, hk, rfl, rfl, hown, hb⟩ := hrel
    replace hown := hide hown
    by_cases hlt : k < n
    · obtain ⟨b1, o1, rfl, hb1⟩ := SetAt.addr h68.out hn0
      obtain ⟨b2, o2, rfl, hb2⟩ := SetAt.addr h8.out hn0
      have h6r := h68.out.below hb (Nat.le_refl _)
      have h8r := h8.out.below hb (Nat.le_refl _)
      have p0 := h6r.cell hlt
      have q0 := h8r.cell hlt
      have hst := range_map_step (fun v => if inS one v || inS region v then (1 : Int) else 0) k
      have hz := hb.size
      clear h6r h8r h68 h8
      by_cases z1 : inS one k = true
      · rw [z1] at p0
        simp only [z1, Bool.true_or, if_true] at hst
        replace hst := hide hst
        have hza : w8.heap.size ≤ (wr.alloc (.cells #[.int .i64 1] 2)).heap.size := by simp; omega
        clear z1 q0
        go_wp2_with (first | (go_at_call 86; (with_reducible refine (l03Truth_calls true _).mono ?_); rintro e w' ⟨rfl, rfl⟩; simp only [if_true]) | (at_builtin; (with_reducible refine wpList_app rfl (.tmp 40) (.tmp 52) rfl hE.out flat_iv rfl (hown.out.alloc _) rfl (Sl.lit1' wr 2 (1 : Int) _ rfl 1 _ ?c0) ?c1 hza ?_); rotate_right; intro A5 c5 w5 hown5 hgr5 hb5 _))
        case c0 => rfl
        case c1 => omega
        go_roundw
        case rel => exact ⟨k + 1, A5, c5, by omega, by go_num, rfl, by rw [hst.out]; exact hown5, (hb.alloc hz _).trans hb5⟩
        case measure => simp [intOf]; omega
      · replace z1 := Bool.eq_false_iff.2 z1
        rw [z1] at p0
        simp only [z1, Bool.false_or] at hst
        generalize inS region k = z2 at *
        cases z2 with
        | true =>
          replace hst := hide hst
          have hza : w8.heap.size ≤ (wr.alloc (.cells #[.int .i64 1] 2)).heap.size := by simp; omega
          clear z1
          go_wp2_with (first | (go_at_call 86; (with_reducible refine (l03Truth_calls true _).mono ?_); rintro e w' ⟨rfl, rfl⟩; simp only [if_true]) | (at_builtin; (with_reducible refine wpList_app rfl (.tmp 40) (.tmp 52) rfl hE.out flat_iv rfl (hown.out.alloc _) rfl (Sl.lit1' wr 2 (1 : Int) _ rfl 1 _ ?c0) ?c1 hza ?_); rotate_right; intro A5 c5 w5 hown5 hgr5 hb5 _))
          case c0 => rfl
          case c1 => omega
          go_roundw
          case rel => exact ⟨k + 1, A5, c5, by omega, by go_num, rfl, by rw [hst.out]; exact hown5, (hb.alloc hz _).trans hb5⟩
          case measure => simp [intOf]; omega
        | false =>
          replace hst := hide hst
          have hza : w8.heap.size ≤ (wr.alloc (.cells #[.int .i64 0] 2)).heap.size := by simp; omega
          clear z1
          go_wp2_with (first | (go_at_call 86; (with_reducible refine (l03Truth_calls false _).mono ?_); rintro e w' ⟨rfl, rfl⟩; simp only [if_false, Bool.false_eq_true]) | (at_builtin; (with_reducible refine wpList_app rfl (.tmp 40) (.tmp 52) rfl hE.out flat_iv rfl (hown.out.alloc _) rfl (Sl.lit1' wr 2 (0 : Int) _ rfl 1 _ ?c0) ?c1 hza ?_); rotate_right; intro A5 c5 w5 hown5 hgr5 hb5 _))
          case c0 => rfl
          case c1 => omega
          go_roundw
          case rel => exact ⟨k + 1, A5, c5, by omega, by go_num, rfl, by rw [hst.out]; exact hown5, (hb.alloc hz _).trans hb5⟩
          case measure => simp [intOf]; omega
    · have hkn : k = n := by omega
      subst hkn
      clear h68 h8
      go_wp2
      go_ret
      refine ⟨_, _, rfl, ?_, bel8.trans (hb.mono bel8.size)⟩
      rw [← heq.out, ← hgl.out]
      exact (hown.out.sl flat_iv).more hz8 (Nat.le_refl _)

set_option maxRecDepth 100000 in
theorem specWinnersOf_u {v : Value} {d : DV} {w : World} {lo hi : Nat} (h : FreshV w lo hi v d) :
    Calls Try.prog 9 #[v] w fun e w' => ∃ r, e = .returned (.tuple #[r, .int .i64 (winnersOfF d).2]) ∧ ResI w' w.heap.size w'.heap.size r (winnersOfF d).1 ∧ Below w.heap.size w w' := by
  obtain ⟨A, n, R, rfl, hN, rfl, ht⟩ := h
  have htot := totV_of hN.all
  have hn : n ≤ 1048576 := by omega
  have q := l23Is_calls A n n R w lo hi hN.all hn
  have hg := FreshV.game hN
  by_cases c : decide (GameOk (R.map dV)) = true
  · rw [c] at q
    replace q := hide q
    have hval : Hid (winnersOfF (R.map dV) = (winnersF (R.map dV), 0)) := by show _ = _; unfold winnersOfF; rw [if_pos c]
    have q2 := hide (fun N => l23Winners_calls A n n (R.map dV) (w.drewN N) (hg.drewN N) (of_decide_eq_true c))
    clear c hg hN htot
    rw [hval.out]
    go_enter Try.func9, Try.ntmps9
    go_wp2_with fail
    refine q.out.mono ?_
    rintro e w1 ⟨rfl, N, rfl⟩
    go_wp2_with fail
    refine (q2.out N).mono ?_
    rintro e w2 ⟨A2, c2, rfl, hs, hb⟩
    replace hs := hide hs
    go_wp2_with fail
    go_ret2
    exact ⟨_, rfl, ⟨A2, n, c2, rfl, hn, hs.out⟩, (below_drewN w N).trans hb⟩
  · replace c := Bool.eq_false_iff.2 c
    rw [c] at q
    replace q := hide q
    have hval : Hid (winnersOfF (R.map dV) = ([], 1)) := by show _ = _; unfold winnersOfF; rw [c]; rfl
    clear c hg hN htot
    rw [hval.out]
    go_enter Try.func9, Try.ntmps9
    go_wp2_with fail
    refine q.out.mono ?_
    rintro e w1 ⟨rfl, N, rfl⟩
    go_wp2_with fail
    go_ret2
    exact ⟨_, rfl, ⟨none, 0, 0, rfl, Nat.zero_le _, Sl.nil_⟩, below_drewN w N⟩

end Go.Proofs.Ytbnneahjjcamlaa
