/-
  The law FnPlays returns true for every input. Conditions: none.
-/
import Derived.Test.YthmhlbkkhaplkaaBaseH
import Derived.Test.YthmhlbkkhaplkaaRows
namespace Go.Proofs.Ythmhlbkkhaplkaa.lawFnPlays
open Go.ChangeShapes Go.WideShapes Go.ChangeAt Go.RowKit
set_option linter.unusedVariables false
set_option linter.unusedSimpArgs false

theorem own : ownKnob Try.prog.godebug = none := by kernel_rfl
theorem laidOut : laidOutB Try.prog = true := by kernel_rfl

set_option maxRecDepth 100000 in
set_option maxHeartbeats 3200000 in
theorem walk (A B : Option Addr) (n m c d : Nat) (code more : List Int) (w : World) (h1 : SlU w 0 w.heap.size A n code) (r1 : ∀ x, x ∈ code → 0 ≤ x ∧ x ≤ 255) (hn : n ≤ maxLen) (h2 : SlU w 0 w.heap.size B m more) (r2 : ∀ x, x ∈ more → 0 ≤ x ∧ x ≤ 255) (hm : m ≤ maxLen) :
    Calls Try.prog 4 #[.slice A n c, .slice B m d] w fun e w' => e = .returned (.bool true) ∧ Below w.heap.size w w' := by
  by_cases big : 1048576 < n ∨ 1048576 < m
  · have q := hide (fun W => r8Long_yes A B n m c d W big)
    go_enter Try.func4, Try.ntmps4
    go_wp2_with (first | (go_at_call 5; (with_reducible refine (q.out _).mono ?_); rintro e w' ⟨rfl, rfl⟩))
    go_ret
    exact ⟨rfl, Below.refl _ _⟩
  have q0 := hide (fun W => r8Long_no A B n m c d W (by omega) (by omega))
  have q1 := hide (R8Game_calls A n c code 0 w h1 r1 hn)
  replace h2 := hide h2
  clear h1
  go_enter Try.func4, Try.ntmps4
  go_wp2_with (first | (go_at_call 5; (with_reducible refine (q0.out _).mono ?_); rintro e w' ⟨rfl, rfl⟩) | fail)
  refine q1.out.mono ?_
  rintro e w1 ⟨G, k, dg, g, Ar, nr, cr, rg, Ax, cx, ch, rfl, hg, ok, hk7, -, -, -, -, hb1⟩
  have hgl := hg.len
  have hk0 : 0 < k := by have := ok.1.1; omega
  have hz1 := hb1.size
  have q2 := hide (WinnersOf_g G k dg g w1 hg ok)
  replace hb1 := hide hb1
  replace hg := hide hg
  replace ok := hide ok
  replace hgl := hide hgl
  clear q0 q1
  go_wp2_with fail
  refine q2.out.mono ?_
  rintro e w2 ⟨A1, c1, rfl, hw2, hb2⟩
  have q3 := hide (StrategyOf_g G k dg g w2 (hg.out.below hb2 (Nat.le_refl _)) ok.out)
  have hz2 := hb2.size
  have hB2 := hide (hb1.out.trans (hb2.mono hz1))
  have hg2 := hide (hg.out.below hb2 (Nat.le_refl _))
  replace hw2 := hide hw2
  clear q2 hb1 hb2 hg
  go_wp2_with fail
  refine q3.out.mono ?_
  rintro e w3 ⟨A2, c2, rfl, hs3, hb3⟩
  have hz3 := hb3.size
  have hB3 := hide (hB2.out.trans (hb3.mono (by omega)))
  have hg3 := hide (hg2.out.below hb3 (Nat.le_refl _))
  have hw3 := hide ((hw2.out.below hb3 (.inl (Nat.le_refl _))).top)
  have hs3' := hide hs3.top
  have q4 := hide (R8Choices_calls B G m d k dg more g w3 ((h2.out.below hB3.out (.inl (Nat.le_refl _))).more (Nat.le_refl _) (by have := hB3.out.size; omega)) r2 hm hg3.out ok.out)
  clear q3 hB2 hg2 hw2 hb3 hs3
  go_wp2_with fail
  refine q4.out.mono ?_
  rintro e w4 ⟨A3, c3, C, rfl, hC4, hD, hb4⟩
  have hz4 := hb4.size
  have hB4 := hide (hB3.out.trans (hb4.mono (by omega)))
  have hCl := hC4.len
  have hcho : Hid (ChoOk g (mixC (stratF g) C k)) := by have e := hgl.out; have := mixC_ok ok.out (C := C) (by rw [hCl]; exact e) (by rw [← e]; exact hD); rw [← e] at this; exact this
  obtain ⟨b3, o3, rfl, g31, g32, g33, -⟩ := hC4.at_ hk0
  have hC5 : Hid (SlI w4 w3.heap.size w4.heap.size (some ⟨b3, o3, none⟩) k (mixC (stratF g) C 0)) := by rw [mixC_zero]; exact hC4
  have hb4' := hide hb4
  have hz03 : w.heap.size ≤ w3.heap.size := hB3.out.size
  clear q4 hb4 hD h2 hC4
  go_wp2_with fail
  go_loopw [13] (fun i wr => ∃ v : Nat, v ≤ k ∧ i = .int .i64 (v : Nat) ∧ Hid (SlI wr w3.heap.size w4.heap.size (some ⟨b3, o3, none⟩) k (mixC (stratF g) C v)) ∧ Hid (Below w3.heap.size w3 wr)) (fun i _ => k - (intOf i).toNat)
  case atStart => exact ⟨0, Nat.zero_le _, rfl, hC5.out, hb4'.out⟩
  case round =>
    clear hC5 hb4'
    obtain ⟨v, hv, rfl, hC, hb⟩ := hrel
    by_cases hlt : v < k
    · have k0 : (0 : Int) ≤ (v : Int) := by omega
      have k1 : (v : Int) < (k : Int) := by omega
      obtain ⟨bs, os, y, rfl, -, -, -, hy, cy, -⟩ := SlI.get (Sl.below hs3'.out hb.out (.inl (Nat.le_refl _))) hlt
      have hay := atC_get hy
      obtain ⟨x, -, cx, fx⟩ := SlI.cell hC.out hlt
      have hbl : b3 < wr.heap.size := by
        obtain ⟨b', o', e, -, -, q, -⟩ := hC.out.at_ hk0
        cases e; exact q
      clear hy
      by_cases hy0 : 0 ≤ y
      · have hC2 := hide (hC.out.put hlt y)
        have hset := mixC_set (best := stratF g) (C := C) (k := v) (by omega) (by rw [hay]; exact hy0)
        rw [hay] at hset
        rw [hset] at hC2
        have hb2 := hide (hb.out.setCell (p := ⟨b3, o3 + v, none⟩) g31 (.int .i64 y))
        have hge : decide (y ≥ 0) = true := decide_eq_true hy0
        clear hset hay
        go_wp2_with fail
        go_roundw
        case rel => exact ⟨v + 1, by omega, by go_num, hC2.out, hb2.out⟩
        case measure => simp [intOf]; omega
      · have hskip := mixC_skip (best := stratF g) (C := C) (k := v) (by rw [hay]; exact hy0)
        rw [← hskip] at hC
        have hge : decide (y ≥ 0) = false := decide_eq_false hy0
        clear hskip hay
        go_wp2_with fail
        go_roundw
        case rel => exact ⟨v + 1, by omega, by go_num, hC.out, hb.out⟩
        case measure => simp [intOf]; omega
    · obtain rfl : v = k := by omega
      have k1 : ¬ (v : Int) < (v : Int) := by omega
      go_wp2_with fail
      obtain ⟨wa, rfl⟩ : ∃ wa : World, wa = wr := ⟨_, rfl⟩
      generalize hCC : mixC (stratF g) C v = CC at *
      clear hCC hCl
      go_loopw [14] (fun i wr => ∃ q : Nat, q ≤ v ∧ i = .int .i64 (q : Nat) ∧ Hid (SlI wr w3.heap.size wr.heap.size (some ⟨b3, o3, none⟩) v CC) ∧ Hid (Below w3.heap.size w3 wr)) (fun i _ => v - (intOf i).toNat)
      case atStart => exact ⟨0, Nat.zero_le _, rfl, hC.out.top, hb.out⟩
      case round =>
        clear hC hb
        obtain ⟨q, hq, rfl, hC, hb⟩ := hrel
        by_cases hlt2 : q < v
        · have k0 : (0 : Int) ≤ (q : Int) := by omega
          have k2 : (q : Int) < (v : Int) := by omega
          have qP := hide (PlayGame_calls G (some ⟨b3, o3, none⟩) v dg c3 q g CC wr _ _ (hg3.out.below hb.out (Nat.le_refl _)) ok.out hC.out hcho.out hlt2)
          go_wp2_with fail
          refine qP.out.mono ?_
          rintro e w5 ⟨A5, m5, c5, a5, rfl, hm5, hs5, hb5⟩
          have hb6 := hide (hb.out.trans (hb5.mono hb.out.size))
          have hC6 := hide ((hC.out.below hb5 (.inl (Nat.le_refl _))).more (Nat.le_refl _) hb5.size)
          obtain ⟨bp, op, x, rfl, -, -, -, hx, cp, -⟩ := SlI.get hs5 hm5
          rw [plyL_at hm5] at hx
          injection hx with hx
          have hx2 : x = (q : Int) := hx.symm
          subst hx2
          rw [Nat.add_zero] at cp
          obtain ⟨bw, ow, y, rfl, -, -, -, hy, cw, -⟩ := SlI.get (Sl.below hw3.out hb6.out (.inl (Nat.le_refl _))) hlt2
          rw [winnersF_at (by have := hgl.out; omega)] at hy
          injection hy with hy
          subst hy
          have m0 : (0 : Int) < (m5 : Int) := by omega
          have m1 : ((m5 : Int) == 0) = false := by rw [beq_eq_false_iff_ne]; omega
          have m2 : ¬ (m5 : Int) = 0 := by omega
          have m3 : ¬ m5 = 0 := by omega
          have e1 : ((q : Int) != (q : Int)) = false := by simp
          have e2 : (wonI g q != wonI g q) = false := by simp
          generalize wonI g q = wq at *
          clear hx hs5 hb5 qP hb
          go_wp2_with fail
          go_roundw
          case rel => exact ⟨q + 1, by omega, by go_num, hC6.out, hb6.out⟩
          case measure => simp [intOf]; omega
        · obtain rfl : q = v := by omega
          have k2 : ¬ (q : Int) < (q : Int) := by omega
          have qc := hide (CompressPriorities_calls G q dg g wr (hg3.out.below hb.out (Nat.le_refl _)) ok.out)
          have hB5 := hide (hB3.out.trans (hb.out.mono hz03))
          have hw5 := hide (Sl.below hw3.out hb.out (.inl (Nat.le_refl _)))
          clear hC
          go_wp2_with fail
          refine qc.out.mono ?_
          rintro e w5 ⟨b5, c5, f, rfl, hg5, ok5, hwin, hb5⟩
          have q6 := hide (WinnersOf_g _ q c5 _ w5 hg5 ok5)
          have hB6 := hide (hB5.out.trans (hb5.mono hB5.out.size))
          have hw6 := hide (Sl.below hw5.out hb5 (.inl (by have := hb.out.size; omega)))
          have hzw := hB6.out.size
          replace hg5 := hide hg5
          replace ok5 := hide ok5
          have hlen5 := hide (priM_len f g)
          clear qc hb5 hB5 hw5 hb
          generalize hsm : priM f g = sm at *
          clear hsm
          go_wp2_with fail
          refine q6.out.mono ?_
          rintro e w6 ⟨A6, c6, rfl, hs6, hb6⟩
          rw [hwin] at hs6
          have hB7 := hide (hB6.out.trans (hb6.mono hzw))
          have hw7 := hide (Sl.below (Sl.top hw6.out) hb6 (.inl (Nat.le_refl _)))
          have hg7 := hide (hg5.out.below hb6 (Nat.le_refl _))
          have q7 := hide (r8Same_yes A6 A1 q c6 c1 (winnersF g) w6 _ _ _ _ hs6 hw7.out (by omega))
          replace hwin := hide hwin
          have hzw7 := hB7.out.size
          clear q6 hB6 hw6 hb6 hs6 hg5
          go_wp2_with fail
          refine q7.out.mono ?_
          rintro e w7 ⟨rfl, hb7⟩
          have q8 := hide (DualGame_calls _ q c5 sm w7 (hg7.out.below hb7 (Nat.le_refl _)) ok5.out)
          have hB8 := hide (hB7.out.trans (hb7.mono hzw7))
          have hw8 := hide (Sl.below (Sl.top hw7.out) hb7 (.inl (Nat.le_refl _)))
          have hzw8 := hB8.out.size
          clear q7 hB7 hw7 hb7 hg7
          go_wp2_with fail
          refine q8.out.mono ?_
          rintro e w8 ⟨hcase, hb8⟩
          have hB9 := hide (hB8.out.trans (hb8.mono hzw8))
          have hw9 := hide (Sl.below (Sl.top hw8.out) hb8 (.inl (Nat.le_refl _)))
          have hzw9 := hB9.out.size
          clear q8 hB8 hw8 hb8
          rcases hcase with ⟨b9, c9, rfl, hg9, ok9⟩ | rfl
          · have q9 := hide (WinnersOf_g _ q c9 _ w8 hg9 ok9)
            have hdual : Hid (∀ u, u < q → (winnersF (dualM sm))[u]? = some (1 - wonI g u)) := fun u hu => by
              have e := hgl.out
              have h1 := winnersF_at (g := dualM sm) (v := u) (by rw [dualM_len, hlen5.out]; omega)
              rw [h1, won_dualM ok5.out ok9 (by rw [hlen5.out]; omega), wonI_eq hwin.out hlen5.out (v := u) (by rw [hlen5.out]; omega)]
            replace hg9 := hide hg9
            replace ok9 := hide ok9
            go_wp2_with fail
            refine q9.out.mono ?_
            rintro e wx ⟨A10, c10, rfl, hs10, hb10⟩
            have hB11 := hide (hB9.out.trans (hb10.mono hzw9))
            have hw11 := hide (Sl.below (Sl.top hw9.out) hb10 (.inl (Nat.le_refl _)))
            replace hs10 := hide hs10
            clear q9 hB9 hw9 hb10
            go_wp2_with fail
            obtain ⟨wy, rfl⟩ : ∃ wy : World, wy = wr := ⟨_, rfl⟩
            go_loopw [27] (fun i wr => ∃ u : Nat, u ≤ q ∧ i = .int .i64 (u : Nat) ∧ Hid (Below wx.heap.size wx wr)) (fun i _ => q - (intOf i).toNat)
            case atStart => exact ⟨0, Nat.zero_le _, rfl, Below.refl _ _⟩
            case round =>
              obtain ⟨u, hu, rfl, hb⟩ := hrel
              by_cases hlt3 : u < q
              · have k3 : (0 : Int) ≤ (u : Int) := by omega
                have k4 : (u : Int) < (q : Int) := by omega
                obtain ⟨bt, ot, x, rfl, -, -, -, hx, ct, -⟩ := SlI.get (Sl.below (Sl.top hs10.out) hb.out (.inl (Nat.le_refl _))) hlt3
                rw [hdual.out u hlt3] at hx
                injection hx with hx
                subst hx
                obtain ⟨bw, ow, y, rfl, -, -, -, hy, cw, -⟩ := SlI.get (Sl.below (Sl.top hw11.out) hb.out (.inl (Nat.le_refl _))) hlt3
                rw [winnersF_at (by have := hgl.out; omega)] at hy
                injection hy with hy
                subst hy
                have hwb : 0 ≤ wonI g u ∧ wonI g u ≤ 1 := by unfold wonI; split <;> omega
                generalize wonI g u = wv at *
                obtain ⟨hw0, hw1⟩ := hwb
                have e1 : (1 - wv != 1 - wv) = false := by simp
                go_wp2_with fail
                go_quiet (fail)
                go_wp2_with fail
                go_roundw
                case rel => exact ⟨u + 1, by omega, by go_num, ⟨hb.out.os, hb.out.tape, hb.out.output, hb.out.size, hb.out.block⟩⟩
                case measure => simp [intOf]; omega
              · have k4 : ¬ (u : Int) < (q : Int) := by omega
                go_wp2_with fail
                go_ret
                exact ⟨rfl, hB11.out.trans (hb.out.mono hB11.out.size)⟩
          · go_wp2_with fail
            go_ret
            exact ⟨rfl, hB9.out⟩

set_option maxRecDepth 100000 in
theorem lifted (os : Os) (started : os.Started) (H : Type) (enc : TypeId × Value → H) :
    ReturnsInHanded {} Try.checked os 4 .any (Rows.fnPlaysSpec.pre6 enc Try.prog Try.f4 Rows.fnPlaysRow.domain false) (Rows.fnPlaysSpec.post enc Try.prog Try.f4 false true false false) := by
  refine returnsInHanded_of_change (C := Try.checked) own started (by kernel_rfl) Try.func4
    (ChangeSpec.witness6 (enc := enc) (C := Try.checked) false ⟨#[], #[.slice none 0 0, .slice none 0 0], []⟩ 8 (by kernel_rfl) (by kernel_rfl) (by kernel_rfl) (by kernel_rfl)) ?_
  intro W base args ds gs before hval0 hW hcnd _
  have hval : ∀ (j : Nat) t v, Try.f4.params[j]? = some t → args[j]? = some v → Value.okWide Try.prog W .any base t v := hval0
  have hW' := hW
  obtain ⟨p, q, hA0, hV, rfl, hfz, hnd⟩ := hW
  have hA : DataW.TrodAll enc Try.prog W 0 (fun _ => true) true Try.f4.params.toList args.toList ds p := hA0
  rw [Try.params4] at hA hval
  obtain ⟨v0, vs0, d0, ds0, p0, q0, hargs, rfl, rfl, h0, r0⟩ := trodAll_cons hA
  obtain ⟨v1, vs1, d1, ds1, p1, q1, rfl, rfl, rfl, h1, r1⟩ := trodAll_cons r0
  obtain ⟨rfl, rfl, rfl⟩ := trodAll_nil r1
  obtain rfl : args = #[v0, v1] := by cases args; simp_all
  obtain ⟨rfl, rfl⟩ := trodVars_none hV
  have lt0 : ∀ x ∈ p0, x.block < W.heap.size := by obtain ⟨m, hm⟩ := h0; exact DataW.trod_lt m _ _ _ hm
  have lt1 : ∀ x ∈ p1, x.block < W.heap.size := by obtain ⟨m, hm⟩ := h1; exact DataW.trod_lt m _ _ _ hm
  obtain ⟨A', n', c', e0⟩ := okWide_slice Try.underlying22 (hval 0 22 v0 rfl rfl)
  obtain ⟨A2', n2', c2', e1⟩ := okWide_slice Try.underlying22 (hval 1 22 v1 rfl rfl)
  obtain ⟨A, n, c, x0, rfl, hn0, a0, b0⟩ := open_SlU Try.underlying22 (by kernel_rfl) Try.underlying5 h0 e0 (fun b off hp => hfz b off (by simp [hp]))
  obtain ⟨B, m, d, x1, rfl, hn1, a1, b1⟩ := open_SlU Try.underlying22 (by kernel_rfl) Try.underlying5 h1 e1 (fun b off hp => hfz b off (by simp [hp]))
  clear hA0 hval0
  refine (walk A B n m c d x0 x1 W a0 b0 hn0 a1 b1 hn1).mono fun e W' ⟨he, bel⟩ => ?_
  subst he
  exact ⟨_, rfl, _, _, _, [], _, [], hW', trodAll_mk1 (shut_bool Try.underlying4 _), (trodAll_cons_mk (Below.trod laidOut (by kernel_rfl) (of_decide_eq_true (by kernel_rfl)) h0 bel lt0) (trodAll_cons_mk (Below.trod laidOut (by kernel_rfl) (of_decide_eq_true (by kernel_rfl)) h1 bel lt1) trodAll_mk0)), rfl, bel.frame _, fun h => by cases h⟩

theorem over : Rows.fnPlaysRow.holds Try.pinned (OpenSpec.ofChange Rows.fnPlaysSpec) :=
  OpenClaim.holds_of_wide 4 Try.f4 rfl rfl rfl rfl rfl rfl rfl ⟨rfl, rfl, rfl, rfl, rfl⟩ rfl rfl rfl rfl rfl (by kernel_rfl) Try.func4 (by kernel_rfl)
    (of_decide_eq_true (by kernel_rfl)) (by unfold Func.isWrapper; first | (rw [if_pos (by decide +kernel)]; kernel_rfl) | (rw [if_neg (by decide +kernel)]; exact ⟨rfl, rfl⟩))
    (fun os started H enc _ => lifted os started H enc)

end Go.Proofs.Ythmhlbkkhaplkaa.lawFnPlays

namespace Go.Proofs.Ythmhlbkkhaplkaa
theorem fnPlays_holds : Rows.FnPlaysSaid := lawFnPlays.over
end Go.Proofs.Ythmhlbkkhaplkaa
