/-
  The law FnSolvers returns true for every input. Conditions: none.
-/
import Derived.Test.YthmhlbkkhaplkaaBaseG
import Derived.Test.YthmhlbkkhaplkaaBaseI
import Derived.Test.YthmhlbkkhaplkaaRows
namespace Go.Proofs.Ythmhlbkkhaplkaa.lawFnSolvers
open Go.ChangeShapes Go.WideShapes Go.ChangeAt Go.RowKit
set_option linter.unusedVariables false
set_option linter.unusedSimpArgs false

theorem own : ownKnob Try.prog.godebug = none := by kernel_rfl
theorem laidOut : laidOutB Try.prog = true := by kernel_rfl

set_option maxRecDepth 100000 in
set_option maxHeartbeats 6400000 in
theorem walk (A B : Option Addr) (n m c d : Nat) (code more : List Int) (w : World) (h1 : SlU w 0 w.heap.size A n code) (r1 : ∀ x, x ∈ code → 0 ≤ x ∧ x ≤ 255) (hn : n ≤ maxLen) (h2 : SlU w 0 w.heap.size B m more) (r2 : ∀ x, x ∈ more → 0 ≤ x ∧ x ≤ 255) (hm : m ≤ maxLen) :
    Calls Try.prog 3 #[.slice A n c, .slice B m d] w fun e w' => e = .returned (.bool true) ∧ Below w.heap.size w w' := by
  by_cases big : 1048576 < n ∨ 1048576 < m
  · have q := hide (fun W => r8Long_yes A B n m c d W big)
    go_enter Try.func3, Try.ntmps3
    go_wp2_with (first | (go_at_call 5; (with_reducible refine (q.out _).mono ?_); rintro e w' ⟨rfl, rfl⟩))
    go_ret
    exact ⟨rfl, Below.refl _ _⟩
  have hE := hide elem_int64
  have q0 := hide (fun W => r8Long_no A B n m c d W (by omega) (by omega))
  have qa := hide (r8At_calls B m d more w 0 _ h2 r2 hm)
  have q1 := hide (fun pl => R8Game_calls A n c code pl w h1 r1 hn)
  clear h1 h2
  go_enter Try.func3, Try.ntmps3
  go_wp2_with (first | (go_at_call 5; (with_reducible refine (q0.out _).mono ?_); rintro e w' ⟨rfl, rfl⟩) | fail)
  refine qa.out.mono ?_
  rintro e w0 ⟨pl, rfl, hpl, rfl⟩
  have q1' := hide (q1.out pl)
  clear q1 qa q0
  go_wp2_with fail
  refine q1'.out.mono ?_
  rintro e w1 ⟨G, k, dg, g, Ar, nr, cr, rg, Ax, cx, ch, rfl, hg, ok, hk7, hrg, hinc, hnr, hch, hb1⟩
  have hgl := hg.len
  have hk0 : 0 < k := by have := ok.1.1; omega
  have hz1 := hb1.size
  have q2 := hide (WinnersOf_g G k dg g w1 hg ok)
  replace hb1 := hide hb1
  replace hg := hide hg
  replace ok := hide ok
  replace hgl := hide hgl
  replace hrg := hide hrg.top
  replace hch := hide hch.top
  replace hinc := hide hinc
  clear q1'
  go_wp2_with fail
  refine q2.out.mono ?_
  rintro e w2 ⟨A1, c1, rfl, hw2, hb2⟩
  have q3 := hide (StrategyOf_g G k dg g w2 (hg.out.below hb2 (Nat.le_refl _)) ok.out)
  have hz2 := hb2.size
  have hB2 := hide (hb1.out.trans (hb2.mono hz1))
  have hg2 := hide (hg.out.below hb2 (Nat.le_refl _))
  have hrg2 := hide (Sl.top (Sl.below hrg.out hb2 (.inl (Nat.le_refl _))))
  have hch2 := hide (Sl.top (Sl.below hch.out hb2 (.inl (Nat.le_refl _))))
  replace hw2 := hide hw2
  clear q2 hb1 hb2 hg hrg hch
  go_wp2_with fail
  refine q3.out.mono ?_
  rintro e w3 ⟨A2, c2, rfl, hs3, hb3⟩
  have hz3 := hb3.size
  have hB3 := hide (hB2.out.trans (hb3.mono (by omega)))
  have hg3 := hide (hg2.out.below hb3 (Nat.le_refl _))
  have hw3 := hide ((hw2.out.below hb3 (.inl (Nat.le_refl _))).top)
  have hs3' := hide hs3.top
  have hrg3 := hide (Sl.top (Sl.below hrg2.out hb3 (.inl (Nat.le_refl _))))
  have hch3 := hide (Sl.top (Sl.below hch2.out hb3 (.inl (Nat.le_refl _))))
  have hz03 : w.heap.size ≤ w3.heap.size := hB3.out.size
  have hk9 : g.length = k := hgl.out.symm
  clear q3 hB2 hg2 hw2 hb3 hs3 hrg2 hch2
  go_wp2_with fail
  go_loopw [13] (fun i wr => ∃ p : Int, 0 ≤ p ∧ p ≤ 2 ∧ i = .int .i64 p ∧ Hid (Below w3.heap.size w3 wr)) (fun i _ => (2 - intOf i).toNat)
  case atStart => exact ⟨0, by omega, by omega, rfl, Below.refl _ _⟩
  case round =>
    obtain ⟨p, hp0, hp2, rfl, hB⟩ := hrel
    have hzr := hB.out.size
    by_cases hlt : p < 2
    · have hp : p = 0 ∨ p = 1 := by omega
      have qm := hide (MeasuresOf_calls G k dg g p wr (hg3.out.below hB.out (Nat.le_refl _)) ok.out hp (by omega))
      go_wp2_with fail
      refine qm.out.mono ?_
      rintro e w4 ⟨bt, ct, μ, rfl, hT, hbt, hL, hD, hb4⟩
      have hz4 := hb4.size
      have hB4 := hide (hB.out.trans (hb4.mono hzr))
      have hO0 := Own.made (α := Int) (size := 1) (f := iv) w4 2 (Nat.le_refl _)
      have hBE := (Below.refl w4.heap.size w4).alloc (Nat.le_refl _) (.cells #[] 2)
      have q5 := hide (IsMeasure_calls G k dg ct bt g p μ (w4.alloc (.cells #[] 2)) (hg3.out.below (hB4.out.alloc hB4.out.size _) (Nat.le_refl _)) ok.out hp (hT.below hBE (Nat.le_refl _)) (pre_of_due ok.out hD) hL.1)
      have hzE := hBE.size
      have hrow := hide (fun v hv => least_done ok.out hp hL hD (v := v) hv)
      replace hT := hide hT
      replace hO0 := hide hO0
      replace hBE := hide hBE
      clear qm hb4 hL hD hB
      go_wp2_with fail
      refine q5.out.mono ?_
      rintro e w6 ⟨rfl, hb6⟩
      have hO6 : Hid (Own 1 iv w6 w4.heap.size 2 (some ⟨w4.heap.size, 0, none⟩) 0 0 (wonL g p 0)) := hO0.out.keep fun q hq => hb6.block q (hO0.out.lt q hq).2
      have hB6 := hide (hBE.out.trans (hb6.mono hzE))
      clear q5 hO0 hBE hb6
      go_wp2_with fail
      obtain ⟨wo, rfl⟩ : ∃ wo : World, wo = wr := ⟨_, rfl⟩
      go_loopw [16, 17] (fun s i wr => ∃ (v : Nat) (Ao : Option Addr) (mm co : Nat), v ≤ k ∧ i = .int .i64 (v : Nat) ∧ s = .slice Ao mm co ∧ Hid (Own 1 iv wr w4.heap.size 2 Ao mm co (wonL g p v)) ∧ Hid (Below w4.heap.size w4 wr)) (fun _ i _ => k - (intOf i).toNat)
      case atStart => exact ⟨0, _, 0, 0, Nat.zero_le _, rfl, rfl, hO6.out, hB6.out⟩
      case round =>
        clear hO6 hB6
        obtain ⟨v, Ao, mm, co, hv, rfl, rfl, hO, hB⟩ := hrel
        have hmm : mm ≤ v := by have := wonL_len (g := g) (p := p) v; rw [hO.out.len] at this; exact this
        have hzw := hB.out.size
        by_cases hltv : v < k
        · have v0 : (0 : Int) ≤ (v : Int) := by omega
          have v1 : (v : Int) < (k : Int) := by omega
          have hcells := fun W (hW : Below w4.heap.size w4 W) => SlI.get (Sl.below hw3.out (hB4.out.trans (hW.mono hB4.out.size)) (.inl (Nat.le_refl _))) hltv
          obtain ⟨b1, o1, y, rfl, -, -, -, hy, cy, -⟩ := hcells wr hB.out
          rw [winnersF_at (by omega)] at hy
          injection hy with hy
          obtain ⟨Ar2, m2, d2, a2, -, -, ⟨lr, hlr, hrr⟩, -⟩ := hT.out.2 v hltv
          have hlrl := hlr.len
          have hbtl := hT.out.1
          by_cases hwon : wonI g v = p
          · have hm5 : m2 = 5 := by
              rcases hrr.len with ⟨-, e⟩ | ⟨e, -⟩
              · have := (hrow.out v (by omega)).2 hwon; omega
              · omega
            subst hm5
            have hy2 : y = p := hy.symm.trans hwon
            subst hy2
            have hstep := hide (wonL_yes (g := g) hwon)
            have hcy : Hid (∀ W, Below w4.heap.size w4 W → W.cell? ⟨b1, o1 + v, none⟩ = some (.int .i64 y)) := fun W hW => by
              obtain ⟨b1', o1', y', e', -, -, -, hy', cy', -⟩ := hcells W hW
              cases e'
              rw [winnersF_at (by omega), hwon] at hy'
              injection hy' with hy'
              rw [hy']
              exact cy'
            have hza : w4.heap.size ≤ (wr.alloc (.cells #[.int .i64 (v : Int)] 2)).heap.size := by rw [World.size_alloc]; omega
            have hBa := hide (hB.out.alloc hB.out.size (.cells #[.int .i64 (v : Int)] 2))
            clear hcells hy hlr hrr hwon
            go_upto_region 21 with (first | (at_builtin; (with_reducible refine wpList_app rfl (.tmp 100) (.tmp 102) rfl hE.out flat_iv rfl (hO.out.alloc _) rfl (Sl.lit1' wr 2 (v : Int) _ rfl 1 _ ?d0) ?d1 hza ?_); rotate_right; intro A6 c6 w6 hown6 hgr6 hb6 hat6))
            case d0 => rfl
            case d1 => omega
            rw [← hstep.out] at hown6
            have hB7 := hide (hBa.out.trans (hb6.mono (Nat.le_refl _)))
            have hO7 := hide hown6
            have cy7 := hcy.out _ hB7.out
            have a7 := (hB7.out.cell (p := ⟨bt, v, none⟩) hbtl).trans a2
            clear hown6 hgr6 hb6 hat6 hBa hza
            go_quiet (fail)
            go_wp2_with fail
            go_roundw
            case rel => exact ⟨v + 1, A6, _, c6, by omega, by go_num, rfl, hO7.out.keep fun _ _ => rfl, hB7.out.trans ((below_drewN _ nq).mono hB7.out.size)⟩
            case measure => simp [intOf]; omega
          · have hm5 : m2 = 0 := by
              rcases hrr.len with ⟨e, -⟩ | ⟨-, e⟩
              · omega
              · exact absurd ((hrow.out v (by omega)).1 e) hwon
            subst hm5
            have hyp : y ≠ p := fun e => hwon (hy.trans e)
            have hstep := hide (wonL_no (g := g) hwon)
            have e1 : (y == p) = false := by rw [beq_eq_false_iff_ne]; exact hyp
            have e2 : (y != p) = true := by simpa using hyp
            have a7 := (hB.out.cell (p := ⟨bt, v, none⟩) hbtl).trans a2
            clear hcells hy hlr hrr hwon hyp
            go_wp2_with fail
            go_quiet (fail)
            go_wp2_with fail
            go_roundw
            case rel => exact ⟨v + 1, Ao, mm, co, by omega, by go_num, rfl, by rw [hstep.out]; exact hO.out.keep fun _ _ => rfl, hB.out.trans ((below_drewN _ nq).mono hB.out.size)⟩
            case measure => simp [intOf]; omega
        · obtain rfl : v = k := by omega
          have v1 : ¬ (v : Int) < (v : Int) := by omega
          have hB7 := hide (hB4.out.trans (hB.out.mono hB4.out.size))
          have hOs := hO.out.sl flat_iv
          have qw := hide (IsWinning_calls G v dg g p Ao mm co (wonL g p v) A2 c2 (stratF g) wr (hg3.out.below hB7.out (Nat.le_refl _)) ok.out hp (hOs.more (Nat.zero_le _) (Nat.le_refl _)) (by omega) (wonL_inc v) (Sl.top (Sl.below hs3'.out hB7.out (.inl (Nat.le_refl _))) |>.more (Nat.zero_le _) (Nat.le_refl _)))
          have hacc := acc_won (p := p) ok.out
          rw [hk9] at hacc
          replace hacc := hide hacc
          clear hO hOs
          go_wp2_with fail
          refine qw.out.mono ?_
          rintro e w8 ⟨b, rfl, hbi, hb8⟩
          obtain rfl : b = true := hbi.2 hacc.out
          have hB8 := hide (hB7.out.trans (hb8.mono hB7.out.size))
          clear qw hacc hbi hb8
          go_wp2_with fail
          go_roundw
          case rel => exact ⟨p + 1, by omega, by omega, by go_num, hB8.out⟩
          case measure => simp [intOf]; omega
    · obtain rfl : p = 2 := by omega
      have qw := hide (IsWinning_calls G k dg g pl Ar nr cr rg Ax cx ch wr (hg3.out.below hB.out (Nat.le_refl _)) ok.out hpl (Sl.top (Sl.below hrg3.out hB.out (.inl (Nat.le_refl _))) |>.more (Nat.zero_le _) (Nat.le_refl _)) (by omega) hinc.out (Sl.top (Sl.below hch3.out hB.out (.inl (Nat.le_refl _))) |>.more (Nat.zero_le _) (Nat.le_refl _)))
      go_wp2_with fail
      refine qw.out.mono ?_
      rintro e w8 ⟨b, rfl, hbi, hb8⟩
      have hB8 := hide (hB.out.trans (hb8.mono hzr))
      cases b with
      | false =>
        clear qw hbi hb8 hB
        go_wp2_with fail
        go_ret
        exact ⟨rfl, hB3.out.trans (hB8.out.mono hz03)⟩
      | true =>
        have hacc := hbi.1 rfl
        have hwins := hide (fun (v : Nat) (hv : (v : Int) ∈ rg) => acc_wins ok.out hpl hacc hv)
        have hrgl := hide hrg3.out.len
        clear qw hbi hb8 hB hacc
        go_wp2_with fail
        obtain ⟨wo, rfl⟩ : ∃ wo : World, wo = wr := ⟨_, rfl⟩
        go_loopw [18] (fun i wr => ∃ t : Nat, t ≤ nr ∧ i = .int .i64 (t : Nat) ∧ Hid (Below w3.heap.size w3 wr)) (fun i _ => nr - (intOf i).toNat)
        case atStart => exact ⟨0, Nat.zero_le _, rfl, hB8.out⟩
        case round =>
          clear hB8
          obtain ⟨t, ht, rfl, hB⟩ := hrel
          by_cases hltt : t < nr
          · have t0 : (0 : Int) ≤ (t : Int) := by omega
            have t1 : (t : Int) < (nr : Int) := by omega
            obtain ⟨br, orr, xI, rfl, -, -, -, hx, cx', -⟩ := SlI.get (Sl.below hrg3.out hB.out (.inl (Nat.le_refl _))) hltt
            obtain ⟨hx0, hx1⟩ := hinc.out.1 xI (List.mem_of_getElem? hx)
            obtain ⟨x, rfl⟩ : ∃ x : Nat, xI = (x : Int) := ⟨xI.toNat, by omega⟩
            have hxk : x < k := by omega
            have hwx := hwins.out x (List.mem_of_getElem? hx)
            obtain ⟨b1, o1, y, rfl, -, -, -, hy, cy, -⟩ := SlI.get (Sl.below hw3.out hB.out (.inl (Nat.le_refl _))) hxk
            rw [winnersF_at (by omega), hwx] at hy
            injection hy with hy
            subst hy
            clear hx hwx
            go_wp2_with fail
            go_roundw
            case rel => exact ⟨t + 1, by omega, by go_num, hB.out⟩
            case measure => simp [intOf]; omega
          · have t1 : ¬ (t : Int) < (nr : Int) := by omega
            go_wp2_with fail
            go_ret
            exact ⟨rfl, hB3.out.trans (hB.out.mono hz03)⟩

set_option maxRecDepth 100000 in
theorem lifted (os : Os) (started : os.Started) (H : Type) (enc : TypeId × Value → H) :
    ReturnsInHanded {} Try.checked os 3 .any (Rows.fnSolversSpec.pre6 enc Try.prog Try.f3 Rows.fnSolversRow.domain false) (Rows.fnSolversSpec.post enc Try.prog Try.f3 false true false false) := by
  refine returnsInHanded_of_change (C := Try.checked) own started (by kernel_rfl) Try.func3
    (ChangeSpec.witness6 (enc := enc) (C := Try.checked) false ⟨#[], #[.slice none 0 0, .slice none 0 0], []⟩ 8 (by kernel_rfl) (by kernel_rfl) (by kernel_rfl) (by kernel_rfl)) ?_
  intro W base args ds gs before hval0 hW hcnd _
  have hval : ∀ (j : Nat) t v, Try.f3.params[j]? = some t → args[j]? = some v → Value.okWide Try.prog W .any base t v := hval0
  have hW' := hW
  obtain ⟨p, q, hA0, hV, rfl, hfz, hnd⟩ := hW
  have hA : DataW.TrodAll enc Try.prog W 0 (fun _ => true) true Try.f3.params.toList args.toList ds p := hA0
  rw [Try.params3] at hA hval
  obtain ⟨v0, vs0, d0, ds0, p0, q0, hargs, rfl, rfl, h0, r0⟩ := trodAll_cons hA
  obtain ⟨v1, vs1, d1, ds1, p1, q1, rfl, rfl, rfl, h1, r1⟩ := trodAll_cons r0
  obtain ⟨rfl, rfl, rfl⟩ := trodAll_nil r1
  obtain rfl : args = #[v0, v1] := by cases args; simp_all
  obtain ⟨rfl, rfl⟩ := trodVars_none hV
  have lt0 : ∀ x ∈ p0, x.block < W.heap.size := by obtain ⟨m, hm⟩ := h0; exact DataW.trod_lt m _ _ _ hm
  have lt1 : ∀ x ∈ p1, x.block < W.heap.size := by obtain ⟨m, hm⟩ := h1; exact DataW.trod_lt m _ _ _ hm
  obtain ⟨A', n', c', e0⟩ := okWide_slice Try.underlying22 (hval 0 22 v0 rfl rfl)
  obtain ⟨A2', n2', c2', e1⟩ := okWide_slice Try.underlying22 (hval 1 22 v1 rfl rfl)
  obtain ⟨A, n, c, x0, rfl, hn0, a0, b0⟩ := open_SlU Try.underlying22 (by kernel_rfl) Try.underlying5 h0 e0 (fun b off hp => hfz b off (by simp [hp]))
  obtain ⟨B, m, d, x1, rfl, hn1, a1, b1⟩ := open_SlU Try.underlying22 (by kernel_rfl) Try.underlying5 h1 e1 (fun b off hp => hfz b off (by simp [hp]))
  clear hA0 hval0
  refine (walk A B n m c d x0 x1 W a0 b0 hn0 a1 b1 hn1).mono fun e W' ⟨he, bel⟩ => ?_
  subst he
  exact ⟨_, rfl, _, _, _, [], _, [], hW', trodAll_mk1 (shut_bool Try.underlying4 _), (trodAll_cons_mk (Below.trod laidOut (by kernel_rfl) (of_decide_eq_true (by kernel_rfl)) h0 bel lt0) (trodAll_cons_mk (Below.trod laidOut (by kernel_rfl) (of_decide_eq_true (by kernel_rfl)) h1 bel lt1) trodAll_mk0)), rfl, bel.frame _, fun h => by cases h⟩

theorem over : Rows.fnSolversRow.holds Try.pinned (OpenSpec.ofChange Rows.fnSolversSpec) :=
  OpenClaim.holds_of_wide 3 Try.f3 rfl rfl rfl rfl rfl rfl rfl ⟨rfl, rfl, rfl, rfl, rfl⟩ rfl rfl rfl rfl rfl (by kernel_rfl) Try.func3 (by kernel_rfl)
    (of_decide_eq_true (by kernel_rfl)) (by unfold Func.isWrapper; first | (rw [if_pos (by decide +kernel)]; kernel_rfl) | (rw [if_neg (by decide +kernel)]; exact ⟨rfl, rfl⟩))
    (fun os started H enc _ => lifted os started H enc)

end Go.Proofs.Ythmhlbkkhaplkaa.lawFnSolvers

namespace Go.Proofs.Ythmhlbkkhaplkaa
theorem fnSolvers_holds : Rows.FnSolversSaid := lawFnSolvers.over
end Go.Proofs.Ythmhlbkkhaplkaa
