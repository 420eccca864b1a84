/-
  The program's winners of a game. Conditions: none (games that are not valid are refused).
-/
import Derived.Test.YtbnneahjjcamlaaWin
import Derived.Test.YtbnneahjjcamlaaWinS
namespace Go.Proofs.Ytbnneahjjcamlaa
open Go.ChangeShapes Go.WideShapes Go.ChangeAt Go.RowKit
set_option linter.unusedVariables false

/-- A list of which the first k places are filled. -/
def intK (n k : Nat) (p : Nat → Int) : List Int := (List.range n).map fun v => if v < k then p v else 0
theorem intK_len (n k : Nat) (p : Nat → Int) : (intK n k p).length = n := by simp [intK]
theorem intK_all (n : Nat) (p : Nat → Int) : intK n n p = (List.range n).map p := by
  unfold intK
  apply List.map_congr_left
  intro v hv
  rw [if_pos (List.mem_range.1 hv)]
theorem intK_step {n k : Nat} {p : Nat → Int} (hk : k < n) : (intK n k p).set k (p k) = intK n (k + 1) p := by
  apply List.ext_getElem?
  intro i
  by_cases e : k = i
  · subst e
    rw [List.getElem?_set_self (by rw [intK_len]; exact hk)]
    simp [intK, hk]
  · rw [List.getElem?_set_ne e]
    by_cases hi : i < n
    · simp only [intK, List.getElem?_map, List.getElem?_range hi, Option.map_some]
      have : (i < k) ↔ (i < k + 1) := by omega
      simp [this]
    · rw [List.getElem?_eq_none (by rw [intK_len]; omega), List.getElem?_eq_none (by rw [intK_len]; omega)]
theorem run_make_int (n : Nat) (hn : n ≤ 1048576) (W : World) : (Instr.makeSlice 24 (.int .i64 (n : Int)) (.int .i64 (n : Int))).run Try.prog W = .ok (.slice (some ⟨W.heap.size, 0, none⟩) n n) (W.alloc (.cells (madeCells #[.int .i64 0] n) 2)) := by
  obtain ⟨i0, hi0, hz0, hz1, hz2⟩ := info_parts info_int64
  have h := make_row (P := Try.prog) 24 2 i0 _ _ n Try.underlying24 hi0 hz0 hz1 (by rw [hz2]; omega) (by omega) W
  rw [Nat.mul_one] at h
  exact h
theorem SlI.made (w : World) (n : Nat) (p : Nat → Int) : SlI (w.alloc (.cells (madeCells #[.int .i64 0] n) 2)) w.heap.size (w.heap.size + 1) (some ⟨w.heap.size, 0, none⟩) n (intK n 0 p) := by
  refine ⟨intK_len _ _ _, fun hn => ⟨w.heap.size, 0, rfl, Nat.le_refl _, by omega, by simp, fun k x hx j u hu => ?_⟩⟩
  have hk : k < n := by
    have := (List.getElem?_eq_some_iff.1 hx).1
    rwa [intK_len] at this
  have hx0 : x = 0 := by
    simp only [intK, List.getElem?_map, List.getElem?_range hk, Option.map_some] at hx
    simp at hx
    exact hx.symm
  subst hx0
  have hj : j = 0 := by
    have := (List.getElem?_eq_some_iff.1 hu).1
    simp [iv] at this
    exact this
  subst hj
  simp [iv] at hu
  subst hu
  have hg := heap_alloc_new w (.cells (madeCells #[.int .i64 0] n) 2)
  refine ⟨(cell_of_row _ _ _ _ _ (0, 0) hg).trans ?_, frozen_of_row _ _ _ _ _ hg⟩
  simp [madeCells, hk, Nat.mod_one]

theorem stuck_marked {g : DV} (o : Int) : (setOf g.length fun v => inS (setOf g.length fun _ => true) v && (decide (gOwn g v = o) && (gNxt g v).isEmpty)) = stuckF g o := setOf_congr fun v hv => by rw [inS_setOf]; simp [hv]

set_option maxRecDepth 100000 in
theorem winners1_calls (b bX bG : Nat) (A : Option Addr) (g : DV) (cg : Nat) (owner : Int) (W : World) (h : ArenaAt W b g (setOf g.length fun _ => true)) (ok : GameOk g) (hX : Box W bX (.pointer (some ⟨b, 0, none⟩))) (hG : Box W bG (.slice A g.length cg)) (hg : GameAt W A g.length g) :
    Calls Try.prog 92 #[.int .i64 owner, .pointer (some ⟨bX, 0, none⟩), .pointer (some ⟨bG, 0, none⟩)] W (GotB W g.length (stuckF g owner)) := by
  have hb0 := (Below.refl W.heap.size W).alloc (Nat.le_refl _) (.cells #[.int .i64 owner] 2)
  have hO := Box.made W (.int .i64 owner) 2
  have hX0 := hX.below hb0 (Nat.le_refl _)
  have x0 := hX0.1
  have q := marked_calls 94 #[.pointer (some ⟨bG, 0, none⟩), .pointer (some ⟨W.heap.size, 0, none⟩)] (fun v => decide (gOwn g v = owner) && (gNxt g v).isEmpty) b g _ (W.alloc (.cells #[.int .i64 owner] 2)) (h.below hb0 (Nat.le_refl _)) ok (fun v W => by kernel_rfl)
    (fun k W1 hk _ hW => winners11_calls bG W.heap.size A g cg owner k W1 ((hg.below hb0 (Nat.le_refl _)).below hW (Nat.le_refl _)) ok hk ((hG.below hb0 (Nat.le_refl _)).below hW (Nat.le_refl _)) (hO.below hW (Nat.le_refl _)))
  rw [stuck_marked] at q
  replace q := hide q
  replace hb0 := hide hb0
  clear h hX hG hg hO hX0
  go_enter Try.func92, Try.ntmps92
  go_wp2_with fail
  refine q.out.mono ?_
  rintro e w1 ⟨A1, k1, rfl, hs, hb⟩
  replace hs := hide hs
  go_wp2_with fail
  go_ret
  exact ⟨A1, k1, rfl, hs.out.more (by simp) (Nat.le_refl _), hb0.out.trans (hb.mono hb0.out.size)⟩

theorem rest_two {g : DV} : (setOf g.length fun v => inS (setOf g.length fun v => inS (setOf g.length fun _ => true) v && !inS (oneF g) v) v && !inS (zeroF g) v) = restF g := setOf_congr fun v hv => by
  rw [inS_setOf, inS_setOf]
  simp [hv, Bool.and_comm]

set_option maxHeartbeats 3200000 in
set_option maxRecDepth 100000 in
theorem winners_calls (A : Option Addr) (cg : Nat) (g : DV) (w : World) (hg : GameAt w A g.length g) (ok : GameOk g) :
    Calls Try.prog 44 #[.slice A g.length cg] w fun e w' => ∃ A' c', e = .returned (.slice A' g.length c') ∧ SlI w' w.heap.size w'.heap.size A' g.length (winnersF g) ∧ Below w.heap.size w w' := by
  have hn0 : 0 < g.length := ok.1.1
  have hn1 : g.length ≤ 120 := ok.1.2
  have hmk := hide (run_make_int g.length (by omega))
  have hb0 := (Below.refl w.heap.size w).alloc (Nat.le_refl _) (.cells #[.slice A g.length cg] 27)
  have hG0 := Box.made w (.slice A g.length cg) 27
  have g0 := hG0.1
  have hg0 := hg.below hb0 (Nat.le_refl _)
  have hz0 : w.heap.size < (w.alloc (.cells #[.slice A g.length cg] 27)).heap.size := by simp
  have q := hide (newArena_calls A cg g _ hg0 ok)
  replace hG0 := hide hG0
  replace hg0 := hide hg0
  replace hb0 := hide hb0
  go_enter Try.func44, Try.ntmps44
  go_wp2_with fail
  generalize hW0 : (w.alloc (.cells #[.slice A g.length cg] 27)) = W0 at *
  generalize hBG : w.heap.size = BG at *
  replace hBG := hide hBG
  clear hW0
  refine q.out.mono ?_
  rintro e w1 ⟨b, rfl, hA1, hb1⟩
  have hbox := (Below.refl w1.heap.size w1).alloc (Nat.le_refl _) (.cells #[.pointer (some ⟨b, 0, none⟩)] 110)
  have bel2 := hb1.trans (hbox.mono hb1.size)
  have hX2 := Box.made w1 (.pointer (some ⟨b, 0, none⟩)) 110
  have hA2 := hA1.below hbox (Nat.le_refl _)
  have hG2 := hG0.out.below bel2 (Nat.le_refl _)
  have hg2 := hg0.out.below bel2 (Nat.le_refl _)
  replace hA2 := hide hA2
  replace hX2 := hide hX2
  replace hG2 := hide hG2
  replace hg2 := hide hg2
  replace bel2 := hide bel2
  clear q hA1 hb1 hbox
  have x2 := hX2.out.1
  have hX2lt := hX2.out.2
  go_upto_region 3 with fail
  generalize hW2 : (w1.alloc (.cells #[.pointer (some ⟨b, 0, none⟩)] 110)) = W2 at *
  generalize hBX : w1.heap.size = BX at *
  clear hW2
  have hWd : Below W2.heap.size W2 W2.drew := below_drewN W2 1
  have q1 := hide (winners1_calls b BX BG A g cg 0 W2.drew (hA2.out.below hWd (Nat.le_refl _)) ok (hX2.out.below hWd (Nat.le_refl _)) (hG2.out.below hWd (Nat.le_refl _)) (hg2.out.below hWd (Nat.le_refl _)))
  go_region_held3 (fun w' => w'.cell? ⟨BX, 0, none⟩ = some (.pointer (some ⟨b, 0, none⟩))) (first | exact y1 | exact z1 | go_keep)
    (first
      | (go_at_call 92; (with_reducible refine q1.out.mono ?_); rintro e w3 ⟨A3, k3, rfl, hs3, hb3⟩; have z1 := (hb3.cell (p := ⟨BX, 0, none⟩) hX2lt).trans x2; have bel3 := hWd.trans (hb3.mono (Nat.le_refl _)); have hX3 := Nat.lt_of_lt_of_le hX2lt hb3.size; replace bel3 := hide bel3; have hF3 := hide (SlB.at_set hs3); clear hs3 hb3)
      | (go_at_call 95; (refine (attract_calls b g _ (stuckF g 0) 1 A3 k3 w3 (hA2.out.below bel3.out (Nat.le_refl _)) ok hF3.out (fun v hv => stuck_whole hv)).mono ?_); rintro e w4 ⟨A4, k4, rfl, hs4, hb4⟩; have y1 := (hb4.cell (p := ⟨BX, 0, none⟩) hX3).trans z1; have bel4 := bel3.out.trans (hb4.mono bel3.out.size); replace bel4 := hide bel4; have hF4 := hide (show SetAt w4 A4 g.length (oneF g) from SlB.at_set hs4); clear hs4 hb4))
  clear q1 hF3 z1 hX3
  go_upto_region 4 with fail
  have hX4 := hX2.out.below bel4.out (Nat.le_refl _)
  have hX4lt := hX4.2
  have x4 := hX4.1
  have hWd4 : Below w4.heap.size w4 w4.drew := below_drewN w4 1
  have belD4 := bel4.out.trans (hWd4.mono bel4.out.size)
  have q2 := hide (winners1_calls b BX BG A g cg 1 w4.drew (hA2.out.below belD4 (Nat.le_refl _)) ok (hX2.out.below belD4 (Nat.le_refl _)) (hG2.out.below belD4 (Nat.le_refl _)) (hg2.out.below belD4 (Nat.le_refl _)))
  replace hX4 := hide hX4
  replace belD4 := hide belD4
  go_region_held3 (fun w' => w'.cell? ⟨BX, 0, none⟩ = some (.pointer (some ⟨b, 0, none⟩))) (first | exact y5 | exact z5 | go_keep)
    (first
      | (go_at_call 92; (with_reducible refine q2.out.mono ?_); rintro e w5 ⟨A5, k5, rfl, hs5, hb5⟩; have z5 := (hb5.cell (p := ⟨BX, 0, none⟩) hX4lt).trans x4; have bel5 := belD4.out.trans (hb5.mono belD4.out.size); have hX5 := Nat.lt_of_lt_of_le hX4lt hb5.size; replace bel5 := hide bel5; have hF5 := hide (SlB.at_set hs5); have hF45 := hide ((hF4.out.below hWd4 (Nat.le_refl _)).below hb5 (Nat.le_refl _)); clear hs5 hb5)
      | (go_at_call 95; (refine (attract_calls b g _ (stuckF g 1) 0 A5 k5 w5 (hA2.out.below bel5.out (Nat.le_refl _)) ok hF5.out (fun v hv => stuck_whole hv)).mono ?_); rintro e w6 ⟨A6, k6, rfl, hs6, hb6⟩; have y5 := (hb6.cell (p := ⟨BX, 0, none⟩) hX5).trans z5; have bel6 := bel5.out.trans (hb6.mono bel5.out.size); replace bel6 := hide bel6; have hF6 := hide (show SetAt w6 A6 g.length (zeroF g) from SlB.at_set hs6); have hF46 := hide (hF45.out.below hb6 (Nat.le_refl _)); clear hs6 hb6))
  clear q2 hF5 hF4 hF45 z5 y1 x4 x2 hX5
  go_wp2_with fail
  refine (without_calls b g _ (oneF g) A4 k4 w6 (hA2.out.below bel6.out (Nat.le_refl _)) ok hF46.out).mono ?_
  rintro e w7 ⟨b7, rfl, hA7, hb7⟩
  have bel7 := hide (bel6.out.trans (hb7.mono bel6.out.size))
  have hF47 := hide (hF46.out.below hb7 (Nat.le_refl _))
  have hF67 := hide (hF6.out.below hb7 (Nat.le_refl _))
  replace hA7 := hide hA7
  clear hb7 hF46 hF6
  go_wp2_with fail
  refine (without_calls b7 g _ (zeroF g) A6 k6 w7 hA7.out ok hF67.out).mono ?_
  rintro e w8 ⟨b8, rfl, hA8, hb8⟩
  rw [rest_two] at hA8
  have bel8 := hide (bel7.out.trans (hb8.mono bel7.out.size))
  have hF48 := hide (hF47.out.below hb8 (Nat.le_refl _))
  have hF68 := hide (hF67.out.below hb8 (Nat.le_refl _))
  replace hA8 := hide hA8
  clear hb8 hF47 hF67 hA7
  go_wp2_with fail
  refine (win_calls g.length b8 g (restF g) w8 hA8.out ok (by have := numS_le (restF g); unfold restF at this ⊢; rw [setOf_len] at this; exact this)).mono ?_
  rintro e w9 ⟨A9, k9, rfl, hs9, hb9⟩
  have bel9 := bel8.out.trans (hb9.mono bel8.out.size)
  have hF49 := hide (hF48.out.below hb9 (Nat.le_refl _))
  have hF69 := hide (hF68.out.below hb9 (Nat.le_refl _))
  have hF99 := hide (SlB.at_set hs9)
  have hG9 := hG2.out.below bel9 (Nat.le_refl _)
  have g9 := hG9.1
  have hGlt := hG9.2
  clear hs9 hb9 hF48 hF68 hA8
  obtain ⟨u1, v1, rfl, -⟩ := SetAt.addr hF49.out hn0
  obtain ⟨u2, v2, rfl, -⟩ := SetAt.addr hF69.out hn0
  obtain ⟨u3, v3, rfl, -⟩ := SetAt.addr hF99.out hn0
  have hval : Hid (winnersF g = (List.range g.length).map fun v => if inS (oneF g) v || (!inS (zeroF g) v && inS (winF g g.length (restF g)) v) then 1 else 0) := rfl
  have hz9 := bel9.size
  replace bel9 := hide bel9
  replace hG9 := hide hG9
  generalize oneF g = one at *
  generalize zeroF g = zero at *
  generalize winF g g.length (restF g) = won at *
  have hm := hide (SlI.made w9 g.length (fun v => if inS one v || (!inS zero v && inS won v) then 1 else 0))
  have g10 := (hG9.out.below ((Below.refl w9.heap.size w9).alloc (Nat.le_refl _) (.cells (madeCells #[.int .i64 0] g.length) 2)) (Nat.le_refl _)).1
  replace hmk := hmk.out
  go_wp2_with fail
  go_loopw [32] (fun i wr => ∃ k : Nat, k ≤ g.length ∧ i = .int .i64 k ∧ SlI wr w9.heap.size (w9.heap.size + 1) (some ⟨w9.heap.size, 0, none⟩) g.length (intK g.length k fun v => if inS one v || (!inS zero v && inS won v) then 1 else 0) ∧ Below w9.heap.size w9 wr ∧ w9.heap.size < wr.heap.size) (fun i _ => g.length - (intOf i).toNat)
  case atStart => exact ⟨0, Nat.zero_le _, rfl, hm.out, (Below.refl _ _).alloc (Nat.le_refl _) _, by simp⟩
  case round =>
    obtain ⟨k, hk, rfl, hs, hb, hz⟩ := hrel
    clear hm hmk
    by_cases hlt : k < g.length
    · obtain ⟨x0, hx0, s0, z0⟩ := SlI.cell hs hlt
      rw [Nat.zero_add] at s0 z0
      have p0 := (hF49.out.below hb (Nat.le_refl _)).cell hlt
      have q0 := (hF69.out.below hb (Nat.le_refl _)).cell hlt
      have r0 := (hF99.out.below hb (Nat.le_refl _)).cell hlt
      have hfin : ∀ v : Int, v = (if inS one k || (!inS zero k && inS won k) then 1 else 0) → SlI (wr.setCell ⟨w9.heap.size, k, none⟩ (.int .i64 v)) w9.heap.size (w9.heap.size + 1) (some ⟨w9.heap.size, 0, none⟩) g.length (intK g.length (k + 1) fun v => if inS one v || (!inS zero v && inS won v) then 1 else 0) := fun v hv => by
        have := hs.put' hlt v
        rwa [hv, intK_step (p := fun v => if inS one v || (!inS zero v && inS won v) then 1 else 0) hlt, Nat.zero_add, ← hv] at this
      replace hfin := hide hfin
      clear hs g9 g10
      generalize g.length = n at *
      generalize inS one k = e1 at *
      generalize inS zero k = e2 at *
      generalize inS won k = e3 at *
      cases e1 <;> cases e2 <;> cases e3
      all_goals
        first
        | (have hnext := hide (hfin.out 1 (by rfl))
           go_wp2_with (go_at_call 98; (with_reducible refine (truth_calls true _).mono ?_); rintro e w' ⟨rfl, rfl⟩; simp only [if_true])
           go_roundw
           case rel => exact ⟨k + 1, by omega, by go_num, hnext.out, hb.setCell (Nat.le_refl _) _, by rw [World.size_setCell]; exact hz⟩
           case measure => simp [intOf]; omega)
        | (have hnext := hide (hfin.out 0 (by rfl))
           go_wp2_with (go_at_call 98; (with_reducible refine (truth_calls false _).mono ?_); rintro e w' ⟨rfl, rfl⟩; simp only [if_false, Bool.false_eq_true])
           go_roundw
           case rel => exact ⟨k + 1, by omega, by go_num, hnext.out, hb.setCell (Nat.le_refl _) _, by rw [World.size_setCell]; exact hz⟩
           case measure => simp [intOf]; omega)
    · have hkn : k = g.length := by omega
      subst hkn
      rw [intK_all, ← hval.out] at hs
      replace hs := hide hs
      clear g9 g10
      go_wp2
      go_ret
      have hbw : Below W2.heap.size W2 wr := bel9.out.trans (hb.mono bel9.out.size)
      have hb02 : Below W0.heap.size W0 wr := bel2.out.trans (hbw.mono bel2.out.size)
      have hbF : Below w.heap.size w wr := by rw [hBG.out]; exact hb0.out.trans (hb02.mono (by have := hz0; omega))
      refine ⟨_, _, rfl, hs.out.more ?_ hz, hbF⟩
      rw [hBG.out]
      have := bel2.out.size
      omega

set_option maxRecDepth 100000 in
theorem implWinnersOf_u {v : Value} {d : DV} {w : World} {lo hi : Nat} (h : FreshV w lo hi v d) :
    Calls Try.prog 11 #[v] w fun e w' => ∃ r, e = .returned (.tuple #[r, .int .i64 (winnersOfF d).2]) ∧ ResI w' w.heap.size w'.heap.size r (winnersOfF d).1 ∧ Below w.heap.size w w' := by
  obtain ⟨A, n, R, rfl, hN, rfl, ht⟩ := h
  have htot := totV_of hN.all
  have hn : n ≤ 1048576 := by omega
  have q := validGame_calls A n n R w lo hi hN.all hn
  have hg := FreshV.game hN
  have hgl := hg.len
  by_cases c : decide (GameOk (R.map dV)) = true
  · rw [c] at q
    replace q := hide q
    have hval : Hid (winnersOfF (R.map dV) = (winnersF (R.map dV), 0)) := by show _ = _; unfold winnersOfF; rw [if_pos c]
    generalize R.map dV = g at *
    subst hgl
    have q2 := hide (fun W (hW : Below w.heap.size w W) => winners_calls A g.length g W (hg.below hW (Nat.le_refl _)) (of_decide_eq_true c))
    clear c hg hN htot
    rw [hval.out]
    go_enter Try.func11, Try.ntmps11
    go_wp2_with fail
    refine q.out.mono ?_
    rintro e w1 ⟨rfl, hb1⟩
    go_wp2_with fail
    refine (q2.out _ hb1).mono ?_
    rintro e w2 ⟨A2, c2, rfl, hs, hb⟩
    replace hs := hide hs
    go_wp2_with fail
    go_ret2
    exact ⟨_, rfl, ⟨A2, _, c2, rfl, hn, hs.out.more hb1.size (Nat.le_refl _)⟩, hb1.trans (hb.mono hb1.size)⟩
  · replace c := Bool.eq_false_iff.2 c
    rw [c] at q
    replace q := hide q
    have hval : Hid (winnersOfF (R.map dV) = ([], 1)) := by show _ = _; unfold winnersOfF; rw [c]; rfl
    clear c hg hN htot hgl
    rw [hval.out]
    go_enter Try.func11, Try.ntmps11
    go_wp2_with fail
    refine q.out.mono ?_
    rintro e w1 ⟨rfl, hb1⟩
    go_wp2_with fail
    go_ret2
    exact ⟨_, rfl, ⟨none, 0, 0, rfl, Nat.zero_le _, Sl.nil_⟩, hb1⟩

end Go.Proofs.Ytbnneahjjcamlaa
