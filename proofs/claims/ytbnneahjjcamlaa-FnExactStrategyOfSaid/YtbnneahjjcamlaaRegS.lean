/-
  The reference's recursive computation of winners. Conditions: valid games.
-/
import Derived.Test.YtbnneahjjcamlaaAttrS2
import Derived.Test.YtbnneahjjcamlaaGame4
namespace Go.Proofs.Ytbnneahjjcamlaa
open Go.ChangeShapes Go.WideShapes Go.ChangeAt Go.RowKit
set_option linter.unusedVariables false

/-- A set of the call's own is handed back. -/
def GotB (w : World) (n : Nat) (s : List Bool) (e : Ending) (w' : World) : Prop := ∃ A c, e = .returned (.slice A n c) ∧ SlB w' w.heap.size w'.heap.size A n s ∧ Below w.heap.size w w'

theorem idx_test {l : List Bool} : (((idxOf l).length : Int) == 0) = !anyS l := by
  rw [← anyS_idx, Bool.eq_iff_iff]
  simp

set_option maxHeartbeats 3200000 in
set_option maxRecDepth 100000 in
theorem l23Region_calls (f : Nat) : ∀ (A B : Option Addr) (n c d : Nat) (g : DV) (alive : List Bool) (w : World), GameAt w A n g → GameOk g → SetAt w B n alive → numS alive ≤ f →
    Calls Try.prog 85 #[.slice A n c, .slice B n d] w (GotB w n (winF g f alive)) := by
  induction f using Nat.strongRecOn with
  | ind f ih =>
  intro A B n c d g alive w hg ok ha hf
  have hgl := hg.len
  have hn : 0 < n ∧ n ≤ 120 := by have := ok.1; omega
  obtain ⟨hn0, hn1⟩ := hn
  have hE := hide elem_bool
  obtain ⟨b1, o1, rfl, hb1⟩ := hg.addr hn0
  obtain ⟨b2, o2, rfl, hb2⟩ := ha.addr hn0
  have hal := hide (ha.len.trans hgl)
  have hmk := run_make_bool n (by omega)
  replace hg := hide hg
  replace ha := hide ha
  replace hgl := hide hgl
  replace ok := hide ok
  replace hmk := hide hmk
  replace ih := hide ih
  go_enter Try.func85, Try.ntmps85
  go_wp2
  go_loop [5, 6] (fun m i => ∃ (k : Nat) (x : Int), k ≤ n ∧ i = .int .i64 k ∧ m = .int .i64 x ∧ Hid (x = leastI (minK g alive k)) ∧ -1 ≤ x ∧ x ≤ 9) (fun _ i => n - (intOf i).toNat)
  case atStart => exact ⟨0, -1, Nat.zero_le _, rfl, rfl, rfl, by omega, by omega⟩
  case round =>
    obtain ⟨k, x, hk, rfl, rfl, hx, hx1, hx9⟩ := hrel
    by_cases hlt : k < n
    · obtain ⟨o, p, l, Ah, nh, ch, hxk, c0, c1, c2, hl, hnh, -, hp, -⟩ := hg.out.cell ok.out hlt
      have a0 := ha.out.cell hlt
      have hpk := gPri_at hxk
      have hpp : ∀ v, v ≤ k → 0 ≤ gPri g v := fun v hv => (ok.out.pri (by rw [← hgl.out]; omega)).1
      clear hl hxk
      by_cases z1 : inS alive k = true
      · rw [z1] at a0
        by_cases y1 : x < 0
        · have hnext : Hid (p = leastI (minK g alive (k + 1))) := by
            have := least_put z1 hpp (.inl (by rw [← hx.out]; exact y1))
            rw [hpk] at this
            exact this.symm
          clear z1 hpp hpk hx ha
          go_wp2
          go_round
          case rel => exact ⟨k + 1, p, by omega, by go_num, rfl, hnext, by omega, by omega⟩
          case measure => simp [intOf]; omega
        · by_cases y2 : p < x
          · have hnext : Hid (p = leastI (minK g alive (k + 1))) := by
              have := least_put z1 hpp (.inr (by rw [← hx.out, hpk]; exact y2))
              rw [hpk] at this
              exact this.symm
            clear z1 hpp hpk hx ha
            go_wp2
            go_round
            case rel => exact ⟨k + 1, p, by omega, by go_num, rfl, hnext, by omega, by omega⟩
            case measure => simp [intOf]; omega
          · have hnext : Hid (x = leastI (minK g alive (k + 1))) := by
              have := least_old z1 (by rw [← hx.out]; exact y1) (by rw [← hx.out, hpk]; exact y2)
              rw [← hx.out] at this
              exact this.symm
            clear z1 hpp hpk hx ha
            go_wp2
            go_round
            case rel => exact ⟨k + 1, x, by omega, by go_num, rfl, hnext, by omega, by omega⟩
            case measure => simp [intOf]; omega
      · replace z1 := Bool.eq_false_iff.2 z1
        have hnext : Hid (x = leastI (minK g alive (k + 1))) := by
          show _ = _
          rw [least_keep z1]; exact hx.out
        rw [z1] at a0
        clear z1 hpp hpk hx ha
        go_wp2
        go_round
        case rel => exact ⟨k + 1, x, by omega, by go_num, rfl, hnext, by omega, by omega⟩
        case measure => simp [intOf]; omega
    · have hkn : k = n := by omega
      subst hkn
      have hx' := hx.out
      have eg : minK g alive k = leastP g alive := by rw [leastP_min, ← hgl.out]
      rw [eg] at hx'
      clear eg hx
      cases hle : leastP g alive with
      | none =>
        rw [hle] at hx'
        have : x = -1 := hx'
        subst this
        have hw := hide (winF_none (f := f) hle)
        have hm := hide (SlB.made w k)
        have hgl2 := hide hgl.out.symm
        replace hmk := hmk.out
        clear hx' hle
        go_wp2
        go_ret
        exact ⟨_, _, rfl, by rw [hw.out, hgl2.out]; exact hm.out.more (Nat.le_refl _) (by simp), (Below.refl _ _).alloc (Nat.le_refl _) _⟩
      | some least =>
        rw [hle] at hx'
        have : x = least := hx'
        subst this
        have hpos : 0 ≤ x := by
          obtain ⟨v, hv, _, hp⟩ := leastP_at hle
          have := (ok.out.pri hv).1
          omega
        have hrest := rest_lt hal.out hle
        obtain ⟨f', rfl⟩ : ∃ f', f = f' + 1 := ⟨f - 1, by omega⟩
        have hstart := SlB.made w k
        rw [← setK_zero k (fun v => inS alive v && decide (gPri g v = x))] at hstart
        replace hstart := hide hstart
        replace hle := hide hle
        replace hrest := hide hrest
        replace hf := hide hf
        replace hmk := hmk.out
        clear hx'
        go_wp2
        replace hmk := hide hmk
        go_loopw [9] (fun i wr => ∃ j : Nat, j ≤ k ∧ i = .int .i64 j ∧ SlB wr w.heap.size (w.heap.size + 1) (some ⟨w.heap.size, 0, none⟩) k (setK k j fun v => inS alive v && decide (gPri g v = x)) ∧ Below w.heap.size w wr ∧ w.heap.size < wr.heap.size) (fun i _ => k - (intOf i).toNat)
        case atStart => exact ⟨0, Nat.zero_le _, rfl, hstart.out, (Below.refl _ _).alloc (Nat.le_refl _) _, by simp⟩
        case round =>
          obtain ⟨j, hj, rfl, hs, hb, hz⟩ := hrel
          clear hstart
          by_cases hjl : j < k
          · obtain ⟨s0, z0, -, -, -⟩ := SlB.cell hs hjl
            rw [Nat.zero_add] at s0 z0
            obtain ⟨o, p, l, Ah, nh, ch, hxk, c0, c1, c2, hl, hnh, -, hp, -⟩ := (hg.out.below hb (Nat.le_refl _)).cell ok.out hjl
            have a0 := (ha.out.below hb (Nat.le_refl _)).cell hjl
            have hpk := gPri_at hxk
            have hfin : ∀ v, v = (inS alive j && decide (p = x)) → SlB (wr.setCell ⟨w.heap.size, j, none⟩ (.bool v)) w.heap.size (w.heap.size + 1) (some ⟨w.heap.size, 0, none⟩) k (setK k (j + 1) fun v => inS alive v && decide (gPri g v = x)) := fun v hv => by
              have := hs.put hjl v
              rwa [setK_step hjl (by rw [hpk]; exact hv), Nat.zero_add] at this
            replace hfin := hide hfin
            clear hl hxk hpk hs ha
            by_cases z1 : inS alive j = true
            · rw [z1] at a0 hfin
              by_cases z2 : p = x
              · have e2 : (p == x) = true := by simpa using z2
                have hnext := hide (hfin.out true (by simp [z2]))
                clear z1 z2 hfin
                go_wp2
                go_roundw
                case rel => exact ⟨j + 1, by omega, by go_num, hnext.out, hb.setCell (Nat.le_refl _) _, by rw [World.size_setCell]; exact hz⟩
                case measure => simp [intOf]; omega
              · have e2 : (p == x) = false := by simpa using z2
                have hnext := hide (hfin.out false (by simp [z2]))
                clear z1 z2 hfin
                go_wp2
                go_roundw
                case rel => exact ⟨j + 1, by omega, by go_num, hnext.out, hb.setCell (Nat.le_refl _) _, by rw [World.size_setCell]; exact hz⟩
                case measure => simp [intOf]; omega
            · replace z1 := Bool.eq_false_iff.2 z1
              rw [z1] at a0 hfin
              have hnext := hide (hfin.out false (by simp))
              clear z1 hfin
              go_wp2
              go_roundw
              case rel => exact ⟨j + 1, by omega, by go_num, hnext.out, hb.setCell (Nat.le_refl _) _, by rw [World.size_setCell]; exact hz⟩
              case measure => simp [intOf]; omega
          · have hjn : j = k := by omega
            subst hjn
            rw [setK_all, hgl.out] at hs
            rw [← hgl.out] at hs
            have hfirst : SetAt wr (some ⟨w.heap.size, 0, none⟩) j (firstF g alive x) := by
              have := SlB.at_set hs
              unfold firstF
              rw [← hgl.out]
              exact this
            replace hfirst := hide hfirst
            clear hs
            go_wp2_with fail
            refine (l23Attract_calls _ _ _ j _ _ _ g alive (firstF g alive x) (x % 2) wr (hg.out.below hb (Nat.le_refl _)) ok.out (ha.out.below hb (Nat.le_refl _)) hfirst.out).mono ?_
            rintro e w1 ⟨A1, k1, rfl, hs1, hb1⟩
            have bel1 := hb.trans (hb1.mono hb.size)
            replace hs1 := hide hs1
            replace hb1 := hide hb1
            clear hfirst
            go_wp2_with fail
            refine (l23Less_calls _ _ j _ _ alive (aimF g alive x) w1 (ha.out.below bel1 (Nat.le_refl _)) (SlB.at_set hs1.out) (by omega)).mono ?_
            rintro e w2 ⟨A2, k2, rfl, hs2, hb2⟩
            have bel2 := bel1.trans (hb2.mono bel1.size)
            rw [hgl.out] at hs2
            rw [← hgl.out] at hs2
            have hrs : SetAt w2 A2 j (lessF g alive (aimF g alive x)) := by
              have := SlB.at_set hs2
              unfold lessF
              rw [← hgl.out]
              exact this
            replace hrs := hide hrs
            replace hb2 := hide hb2
            clear hs2 hs1 hb1
            go_wp2_with fail
            refine (ih.out f' (Nat.lt_succ_self _) _ _ j _ _ g (lessF g alive (aimF g alive x)) w2 (hg.out.below bel2 (Nat.le_refl _)) ok.out hrs.out (by have := hrest.out; have := hf.out; omega)).mono ?_
            rintro e w3 ⟨A3, k3, rfl, hs3, hb3⟩
            have bel3 := bel2.trans (hb3.mono bel2.size)
            have hrs3 := hide (hrs.out.below hb3 (Nat.le_refl _))
            have hin3 := hide (SlB.at_set hs3)
            clear hs3 hb3 hrs hb2
            have hm2 : x % 2 = 0 ∨ x % 2 = 1 := by omega
            rcases hm2 with hm2 | hm2
            · have e1 : (x % 2 == 1) = false := by rw [hm2]; rfl
              have e0 : (x % 2 == 0) = true := by rw [hm2]; rfl
              have hoth : Hid (otherF g (lessF g alive (aimF g alive x)) (winF g f' (lessF g alive (aimF g alive x))) (x % 2) = winF g f' (lessF g alive (aimF g alive x))) := by show _ = _; rw [hm2]; exact other_zero (setOf_len _ _)
              have hstop := hide (fun h => winF_stop (f := f') hle.out h)
              have hgo := hide (fun h => winF_go (f := f') hle.out h)
              have hll := hide (fun h => lost_lt (won := winF g f' (lessF g alive (aimF g alive x))) (player := x % 2) (p2 := 1 - x % 2) (least := x) hal.out h)
              have hgo0 := hide (fun lost (h : ∀ v, inS lost v = true → inS alive v = true) => go_zero (g := g) (f := f') h)
              replace hm2 := hide hm2
              go_wp2_with fail
              refine (l15True_calls A3 j k3 _ w3 _ _ hin3.out (by omega)).mono ?_
              rintro e w4 ⟨A4, k4, rfl, -, hb4⟩
              have bel4 := bel3.trans (hb4.mono bel3.size)
              have hin4 := hide (hin3.out.below hb4 (Nat.le_refl _))
              clear hin3 hrs3 hb4
              have et := idx_test (l := winF g f' (lessF g alive (aimF g alive x)))
              by_cases hany : anyS (winF g f' (lessF g alive (aimF g alive x))) = true
              · rw [hany] at et
                have hany2 : anyS (otherF g (lessF g alive (aimF g alive x)) (winF g f' (lessF g alive (aimF g alive x))) (x % 2)) = true := by rw [hoth.out]; exact hany
                have hgo := hide (hgo.out hany2)
                have hll := hide (hll.out hany2)
                replace hany2 := hide hany2
                clear hstop hany
                go_wp2_with fail
                refine (l23Attract_calls _ _ _ j _ _ _ g alive (winF g f' (lessF g alive (aimF g alive x))) (1 - x % 2) w4 (hg.out.below bel4 (Nat.le_refl _)) ok.out (ha.out.below bel4 (Nat.le_refl _)) hin4.out).mono ?_
                rintro e w5 ⟨A5, k5, rfl, hs5, hb5⟩
                have bel5 := bel4.trans (hb5.mono bel4.size)
                have hl5 := hide (SlB.at_set hs5)
                clear hs5 hb5 hin4
                go_wp2_with fail
                refine (l23Less_calls _ _ j _ _ alive _ w5 (ha.out.below bel5 (Nat.le_refl _)) hl5.out (by omega)).mono ?_
                rintro e w6 ⟨A6, k6, rfl, hs6, hb6⟩
                have bel6 := bel5.trans (hb6.mono bel5.size)
                have hl6 := hide (hl5.out.below hb6 (Nat.le_refl _))
                have hr6 : Hid (SetAt w6 A6 j (lessF g alive (attrF g alive (1 - x % 2) (winF g f' (lessF g alive (aimF g alive x)))))) := by
                  have := SlB.at_set hs6
                  show SetAt _ _ _ _
                  unfold lessF
                  rw [← hgl.out]
                  rw [hgl.out] at this ⊢
                  exact this
                clear hs6 hb6 hl5
                go_wp2_with fail
                refine (ih.out f' (Nat.lt_succ_self _) _ _ j _ _ g _ w6 (hg.out.below bel6 (Nat.le_refl _)) ok.out hr6.out (by have := hll.out; rw [hoth.out] at this; have := hf.out; omega)).mono ?_
                rintro e w7 ⟨A7, k7, rfl, hs7, hb7⟩
                have bel7 := bel6.trans (hb7.mono bel6.size)
                have hl7 := hide (Sl.below hl6.out hb7 (.inr (Nat.le_refl _)))
                obtain ⟨b7, o7, eA7, h71, h72, -, -⟩ := hs7.at_ hn0
                subst eA7
                have hs7' := hs7.tight' hn0
                obtain ⟨b5, o5, rfl, -⟩ := SetAt.addr hl6.out hn0
                have hwl := hide (winF_len g f' (lessF g alive (attrF g alive (1 - x % 2) (winF g f' (lessF g alive (aimF g alive x))))))
                have hres : Hid (winF g (f' + 1) alive = setOf j fun v => inS (winF g f' (lessF g alive (attrF g alive (1 - x % 2) (winF g f' (lessF g alive (aimF g alive x)))))) v || inS (attrF g alive (1 - x % 2) (winF g f' (lessF g alive (aimF g alive x)))) v) := by
                  show _ = _
                  rw [hgo.out, hoth.out, hm2.out, hgl.out]
                  exact hgo0.out _ fun v hv => Attr.sub (fun u hu => by
                    have := winF_sub _ _ _ hu
                    rw [inS_lessF] at this
                    simp at this
                    exact this.2.1) ((inS_attrF hal.out fun u hu => by
                    have := winF_sub _ _ _ hu
                    rw [inS_lessF] at this
                    simp at this
                    exact this.2.1).1 hv)
                have hz67 : w.heap.size ≤ w6.heap.size := bel6.size
                clear hs7 hb7 hl6 hr6 hgo hgo0 hoth hll hany2 hle hrest ih hm2
                generalize attrF g alive (1 - x % 2) (winF g f' (lessF g alive (aimF g alive x))) = lost at *
                generalize winF g f' (lessF g alive lost) = won2 at *
                replace hs7' := hide hs7'
                obtain ⟨wo, rfl⟩ : ∃ wo : World, wo = w7 := ⟨_, rfl⟩
                go_wp2_with fail
                go_loopw [15] (fun i wr => ∃ q : Nat, q ≤ j ∧ i = .int .i64 q ∧ SlB wr b7 (b7 + 1) (some ⟨b7, o7, none⟩) j (setM won2 q fun v => inS won2 v || inS lost v) ∧ Only b7 (b7 + 1) wo wr) (fun i _ => j - (intOf i).toNat)
                case atStart => exact ⟨0, Nat.zero_le _, rfl, by rw [setM_zero]; exact hs7'.out, Only.refl _ _ _⟩
                case round =>
                  obtain ⟨q, hq, rfl, hs, ho⟩ := hrel
                  clear hs7'
                  have hoz := ho.size
                  by_cases hql : q < j
                  · obtain ⟨s0, z0, -, -, -⟩ := SlB.cell hs hql
                    rw [inS_setM (by rw [hwl.out, ← hgl.out]; exact hql)] at s0
                    have l0 := (SlB.cell (Sl.only hl7.out ho (.inl h71)) hql).1
                    have hput : ∀ v, v = (inS won2 q || inS lost q) → SlB (wr.setCell ⟨b7, o7 + q, none⟩ (.bool v)) b7 (b7 + 1) (some ⟨b7, o7, none⟩) j (setM won2 (q + 1) fun v => inS won2 v || inS lost v) := fun v hv => by
                      have := hs.put hql v
                      rwa [setM_step (by rw [hwl.out, ← hgl.out]; exact hql) hv] at this
                    replace hput := hide hput
                    clear hs
                    by_cases z1 : inS won2 q = true
                    · rw [z1] at s0
                      have hnext := hide (hput.out true (by rw [z1]; rfl))
                      clear z1 hput
                      go_wp2
                      go_roundw
                      case rel => exact ⟨q + 1, by omega, by go_num, hnext.out, ho.setCell (Nat.le_refl _) (Nat.lt_succ_self _) _⟩
                      case measure => simp [intOf]; omega
                    · replace z1 := Bool.eq_false_iff.2 z1
                      rw [z1] at s0
                      have hnext := hide (hput.out (inS lost q) (by rw [z1]; rfl))
                      clear z1 hput
                      generalize inS lost q = lq at *
                      go_wp2
                      go_roundw
                      case rel => exact ⟨q + 1, by omega, by go_num, hnext.out, ho.setCell (Nat.le_refl _) (Nat.lt_succ_self _) _⟩
                      case measure => simp [intOf]; omega
                  · have hqj : q = j := by omega
                    subst hqj
                    rw [setM_all _ (by rw [hwl.out, hgl.out]), ← hres.out] at hs
                    replace hs := hide hs
                    go_wp2
                    go_ret
                    exact ⟨_, _, rfl, hs.out.more (by omega) (by omega), Only.below bel7 ho (by omega) bel7.size⟩
              · replace hany := Bool.eq_false_iff.2 hany
                rw [hany] at et
                have hres : Hid (winF g (f' + 1) alive = setOf j fun _ => false) := by
                  show _ = _
                  rw [hstop.out (by rw [hoth.out]; exact hany), hm2.out, hgl.out]
                  exact stop_zero
                have hm := hide (SlB.made w4 j)
                have hz4 := bel4.size
                replace hmk := hmk.out
                clear hstop hgo hll hgo0 hoth hany
                go_wp2
                go_ret
                exact ⟨_, _, rfl, by rw [hres.out]; exact hm.out.more (by omega) (by simp), bel4.alloc (by omega) _⟩
            · have e1 : (x % 2 == 1) = true := by rw [hm2]; rfl
              have e0 : (x % 2 == 0) = false := by rw [hm2]; rfl
              have hoth : Hid (otherF g (lessF g alive (aimF g alive x)) (winF g f' (lessF g alive (aimF g alive x))) (x % 2) = lessF g (lessF g alive (aimF g alive x)) (winF g f' (lessF g alive (aimF g alive x)))) := by show _ = _; rw [hm2]; exact other_one
              have hstop := hide (fun h => winF_stop (f := f') hle.out h)
              have hgo := hide (fun h => winF_go (f := f') hle.out h)
              have hll := hide (fun h => lost_lt (won := winF g f' (lessF g alive (aimF g alive x))) (player := x % 2) (p2 := 1 - x % 2) (least := x) hal.out h)
              replace hm2 := hide hm2
              go_wp2_with fail
              refine (l23Less_calls _ _ j _ _ (lessF g alive (aimF g alive x)) (winF g f' (lessF g alive (aimF g alive x))) w3 hrs3.out hin3.out (by omega)).mono ?_
              rintro e w4' ⟨A3', k3', rfl, hs4', hb4'⟩
              have bel4' := bel3.trans (hb4'.mono bel3.size)
              have hlst : SlB w4' w3.heap.size w4'.heap.size A3' j (lessF g (lessF g alive (aimF g alive x)) (winF g f' (lessF g alive (aimF g alive x)))) := by
                unfold lessF at hs4' ⊢
                rw [← hgl.out] at hs4' ⊢
                exact hs4'
              replace hlst := hide hlst
              clear hs4' hb4'
              go_wp2_with fail
              refine (l15True_calls A3' j k3' _ w4' _ _ hlst.out (by omega)).mono ?_
              rintro e w4 ⟨A4, k4, rfl, -, hb4⟩
              have bel4 := bel4'.trans (hb4.mono bel4'.size)
              have hin4 := hide ((SlB.at_set hlst.out).below hb4 (Nat.le_refl _))
              clear hin3 hrs3 hb4 hlst
              have et := idx_test (l := lessF g (lessF g alive (aimF g alive x)) (winF g f' (lessF g alive (aimF g alive x))))
              by_cases hany : anyS (lessF g (lessF g alive (aimF g alive x)) (winF g f' (lessF g alive (aimF g alive x)))) = true
              · rw [hany] at et
                have hany2 : anyS (otherF g (lessF g alive (aimF g alive x)) (winF g f' (lessF g alive (aimF g alive x))) (x % 2)) = true := by rw [hoth.out]; exact hany
                have hgo := hide (hgo.out hany2)
                have hll := hide (hll.out hany2)
                replace hany2 := hide hany2
                clear hstop hany
                go_wp2_with fail
                refine (l23Attract_calls _ _ _ j _ _ _ g alive (lessF g (lessF g alive (aimF g alive x)) (winF g f' (lessF g alive (aimF g alive x)))) (1 - x % 2) w4 (hg.out.below bel4 (Nat.le_refl _)) ok.out (ha.out.below bel4 (Nat.le_refl _)) hin4.out).mono ?_
                rintro e w5 ⟨A5, k5, rfl, hs5, hb5⟩
                have bel5 := bel4.trans (hb5.mono bel4.size)
                have hl5 := hide (SlB.at_set hs5)
                clear hs5 hb5 hin4
                go_wp2_with fail
                refine (l23Less_calls _ _ j _ _ alive _ w5 (ha.out.below bel5 (Nat.le_refl _)) hl5.out (by omega)).mono ?_
                rintro e w6 ⟨A6, k6, rfl, hs6, hb6⟩
                have bel6 := bel5.trans (hb6.mono bel5.size)
                have hr6 : Hid (SetAt w6 A6 j (lessF g alive (attrF g alive (1 - x % 2) (lessF g (lessF g alive (aimF g alive x)) (winF g f' (lessF g alive (aimF g alive x))))))) := by
                  have := SlB.at_set hs6
                  show SetAt _ _ _ _
                  unfold lessF at this ⊢
                  rw [← hgl.out] at this ⊢
                  exact this
                clear hs6 hb6 hl5
                go_wp2_with fail
                refine (ih.out f' (Nat.lt_succ_self _) _ _ j _ _ g _ w6 (hg.out.below bel6 (Nat.le_refl _)) ok.out hr6.out (by have := hll.out; rw [hoth.out] at this; have := hf.out; omega)).mono ?_
                rintro e w7 ⟨A7, k7, rfl, hs7, hb7⟩
                have bel7 := bel6.trans (hb7.mono bel6.size)
                have hres : Hid (winF g (f' + 1) alive = winF g f' (lessF g alive (attrF g alive (1 - x % 2) (lessF g (lessF g alive (aimF g alive x)) (winF g f' (lessF g alive (aimF g alive x))))))) := by
                  show _ = _
                  rw [hgo.out, hoth.out, hm2.out]
                  exact go_one
                have hz67 : w.heap.size ≤ w6.heap.size := bel6.size
                replace hs7 := hide hs7
                clear hr6 hgo hoth hll hany2 hle hrest ih
                go_wp2
                go_ret
                exact ⟨_, _, rfl, by rw [hres.out]; exact hs7.out.more hz67 (Nat.le_refl _), bel7⟩
              · replace hany := Bool.eq_false_iff.2 hany
                rw [hany] at et
                have hres : Hid (winF g (f' + 1) alive = alive) := by
                  show _ = _
                  rw [hstop.out (by rw [hoth.out]; exact hany), hm2.out]
                  exact stop_one hal.out
                have hz4 := bel4.size
                have ha4 := hide ((ha.out.below (bel4.alloc (by omega) (.cells #[] 4)) (Nat.le_refl _)).sl)
                have hz : w.heap.size ≤ (w4.alloc (.cells #[] 4)).heap.size := by simp; omega
                clear hstop hgo hll hoth hany
                go_wp2_with (first | (at_builtin; (with_reducible refine wpList_app rfl (.tmp 98) (.tmp 99) rfl hE.out flat_bv rfl (Own.made w4 4 hz4) rfl ha4.out ?c1 hz ?_); rotate_right; intro A8 c8 w8 hown8 hgr8 hb8 _))
                case c1 => omega
                go_ret
                rw [Nat.zero_add, List.nil_append] at hown8
                exact ⟨_, _, rfl, by rw [hres.out]; exact hown8.sl flat_bv, (bel4.alloc hz4 _).trans hb8⟩

end Go.Proofs.Ytbnneahjjcamlaa
