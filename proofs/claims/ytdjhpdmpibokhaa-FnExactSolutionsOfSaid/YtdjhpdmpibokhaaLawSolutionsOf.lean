/-
  The law FnExactSolutionsOf returns true for every input. Conditions: none.
-/
import Derived.Test.YtdjhpdmpibokhaaSols3
import Derived.Test.YtdjhpdmpibokhaaBoilT
import Derived.Test.YtdjhpdmpibokhaaBoilM
import Derived.Test.YtdjhpdmpibokhaaBoilI
import Derived.Test.YtdjhpdmpibokhaaOpen
namespace Go.Proofs.Ytdjhpdmpibokhaa.lawSolutionsOf
open Go.ChangeShapes Go.WideShapes Go.ChangeAt Go.RowKit
set_option linter.unusedVariables false

theorem own : ownKnob Try.prog.godebug = none := by kernel_rfl
theorem laidOut : laidOutB Try.prog = true := by kernel_rfl

theorem walk (A0 : Option Addr) (n0 c0 : Nat) (l0 : List (Int × Int)) (A1 : Option Addr) (n1 c1 : Nat) (l1 : List Int) (w : World) (h0 : SlT w 0 w.heap.size A0 n0 l0) (hm0 : n0 ≤ maxLen) (h1 : SlI w 0 w.heap.size A1 n1 l1) (hm1 : n1 ≤ maxLen) :
    Calls Try.prog 10 #[.slice A0 n0 c0, .slice A1 n1 c1] w fun e w' => e = .returned (.bool true) ∧ Below w.heap.size w w' := by
  have mm0 := hide hm0
  have mm1 := hide hm1
  have mx0 : n0 ≤ 9223372036854775807 := by have := hm0; unfold maxLen at this; omega
  have mx1 : n1 ≤ 9223372036854775807 := by have := hm1; unfold maxLen at this; omega
  clear hm0 hm1
  by_cases big1 : (1048576 : Int) < n1
  · clear h0 h1
    go_enter Try.func10, Try.ntmps10
    go_wp2_with fail
    go_ret
    exact ⟨rfl, Below.refl _ _⟩
  have ns1 : n1 ≤ 1048576 := by omega
  have sz0 := szTermS_calls A0 n0 c0 (1048576) w mm0.out (by omega) (by omega)
  by_cases big0 : 1048576 < (n0 : Int)
  · rw [if_pos big0] at sz0
    replace sz0 := hide sz0
    clear h0 h1
    go_enter Try.func10, Try.ntmps10
    go_wp2_with (first | (go_at_call 12; (with_reducible refine sz0.out.mono ?_); rintro e w' ⟨rfl, rfl⟩))
    go_ret
    exact ⟨rfl, Below.refl _ _⟩
  rw [if_neg big0] at sz0
  replace sz0 := hide sz0
  have ns0 : n0 ≤ 1048576 := by omega
  have bel := Below.refl w.heap.size w
  go_enter Try.func10, Try.ntmps10
  go_wp2_with (first | (go_at_call 12; (with_reducible refine sz0.out.mono ?_); rintro e w' ⟨rfl, rfl⟩))
  clear sz0
  refine (toTermS_calls A0 n0 c0 l0 w _ _ h0 ns0).mono ?_
  rintro e w1 ⟨Bs0, rfl, hb, s0⟩
  replace h0 := h0.below hb (.inr (Nat.le_refl _))
  replace h1 := h1.below hb (.inr (Nat.le_refl _))
  replace bel := bel.trans (hb.mono bel.size)
  have zw1 := hb.size
  clear hb
  go_wp2_with fail
  refine (toInt64S_calls A1 n1 c1 l1 w1 _ _ h1 ns1).mono ?_
  rintro e w2 ⟨Bs1, rfl, hb, s1⟩
  replace h0 := h0.below hb (.inr (Nat.le_refl _))
  replace h1 := h1.below hb (.inr (Nat.le_refl _))
  replace s0 := s0.below hb (.inr (Nat.le_refl _))
  replace bel := bel.trans (hb.mono bel.size)
  have zw2 := hb.size
  clear hb
  go_wp2_with fail
  refine (specSolutionsOf_std w2 _ _ _ _ _ s0 ns0 _ _ _ _ _ s1 ns1).mono ?_
  rintro e w3 ⟨Cw0, qw0, dw0, Rw0, rfl, yw0, ew0, vw0, rw0, hb⟩
  replace h0 := h0.below hb (.inr (Nat.le_refl _))
  replace h1 := h1.below hb (.inr (Nat.le_refl _))
  replace s0 := s0.below hb (.inr (Nat.le_refl _))
  replace s1 := s1.below hb (.inr (Nat.le_refl _))
  replace bel := bel.trans (hb.mono bel.size)
  have zw3 := hb.size
  clear hb
  go_wp2_with fail
  refine (toTermS_calls A0 n0 c0 l0 w3 _ _ h0 ns0).mono ?_
  rintro e w4 ⟨Bx0, rfl, hb, x0⟩
  replace h0 := h0.below hb (.inr (Nat.le_refl _))
  replace h1 := h1.below hb (.inr (Nat.le_refl _))
  replace rw0 := rw0.below hb (.inr (Nat.le_refl _))
  replace bel := bel.trans (hb.mono bel.size)
  have zw4 := hb.size
  clear hb
  go_wp2_with fail
  refine (toInt64S_calls A1 n1 c1 l1 w4 _ _ h1 ns1).mono ?_
  rintro e w5 ⟨Bx1, rfl, hb, x1⟩
  replace h0 := h0.below hb (.inr (Nat.le_refl _))
  replace h1 := h1.below hb (.inr (Nat.le_refl _))
  replace rw0 := rw0.below hb (.inr (Nat.le_refl _))
  replace x0 := x0.below hb (.inr (Nat.le_refl _))
  replace bel := bel.trans (hb.mono bel.size)
  have zw5 := hb.size
  clear hb
  go_wp2_with fail
  refine (implSolutionsOf_std w5 _ _ _ _ _ x0 ns0 _ _ _ _ _ x1 ns1).mono ?_
  rintro e w6 ⟨Cg0, qg0, dg0, Rg0, rfl, yg0, eg0, vg0, rg0, hb⟩
  replace h0 := h0.below hb (.inr (Nat.le_refl _))
  replace h1 := h1.below hb (.inr (Nat.le_refl _))
  replace rw0 := rw0.below hb (.inr (Nat.le_refl _))
  replace x0 := x0.below hb (.inr (Nat.le_refl _))
  replace x1 := x1.below hb (.inr (Nat.le_refl _))
  replace bel := bel.trans (hb.mono bel.size)
  have zw6 := hb.size
  clear hb
  have hq := eqInt64SS_calls _ _ _ _ dg0 dw0 _ _ w6 _ _ _ _ rg0 rw0 (by omega) (by omega)
  rw [decide_eq_true (vg0.trans vw0.symm)] at hq
  replace hq := hide hq
  go_wp2_with fail
  refine (hq.out).mono ?_
  rintro e w7 ⟨rfl, hb⟩
  clear hq
  replace h0 := h0.below hb (.inr (Nat.le_refl _))
  replace h1 := h1.below hb (.inr (Nat.le_refl _))
  replace rw0 := rw0.below hb (.inr (Nat.le_refl _))
  replace x0 := x0.below hb (.inr (Nat.le_refl _))
  replace x1 := x1.below hb (.inr (Nat.le_refl _))
  replace rg0 := rg0.below hb (.inr (Nat.le_refl _))
  replace bel := bel.trans (hb.mono bel.size)
  have zw7 := hb.size
  clear hb
  go_wp2_with fail
  refine (toTermS_calls A0 n0 c0 l0 w7 _ _ h0 ns0).mono ?_
  rintro e w8 ⟨Bt0, rfl, hb, t0⟩
  replace h0 := h0.below hb (.inr (Nat.le_refl _))
  replace h1 := h1.below hb (.inr (Nat.le_refl _))
  replace rw0 := rw0.below hb (.inr (Nat.le_refl _))
  replace x0 := x0.below hb (.inr (Nat.le_refl _))
  replace x1 := x1.below hb (.inr (Nat.le_refl _))
  replace rg0 := rg0.below hb (.inr (Nat.le_refl _))
  replace bel := bel.trans (hb.mono bel.size)
  have zw8 := hb.size
  clear hb
  go_wp2_with fail
  refine (eqTermS_calls _ _ _ _ _ _ _ _ _ _ _ _ _ x0 t0 mm0.out mm0.out).mono ?_
  rintro e w9 ⟨rfl, hb⟩
  replace h0 := h0.below hb (.inr (Nat.le_refl _))
  replace h1 := h1.below hb (.inr (Nat.le_refl _))
  replace rw0 := rw0.below hb (.inr (Nat.le_refl _))
  replace x0 := x0.below hb (.inr (Nat.le_refl _))
  replace x1 := x1.below hb (.inr (Nat.le_refl _))
  replace rg0 := rg0.below hb (.inr (Nat.le_refl _))
  replace t0 := t0.below hb (.inr (Nat.le_refl _))
  replace bel := bel.trans (hb.mono bel.size)
  have zw9 := hb.size
  clear hb
  go_wp2_with fail
  refine (toInt64S_calls A1 n1 c1 l1 w9 _ _ h1 ns1).mono ?_
  rintro e w10 ⟨Bt1, rfl, hb, t1⟩
  replace h0 := h0.below hb (.inr (Nat.le_refl _))
  replace h1 := h1.below hb (.inr (Nat.le_refl _))
  replace rw0 := rw0.below hb (.inr (Nat.le_refl _))
  replace x0 := x0.below hb (.inr (Nat.le_refl _))
  replace x1 := x1.below hb (.inr (Nat.le_refl _))
  replace rg0 := rg0.below hb (.inr (Nat.le_refl _))
  replace bel := bel.trans (hb.mono bel.size)
  have zw10 := hb.size
  clear hb
  go_wp2_with fail
  refine (eqInt64S_calls _ _ _ _ _ _ _ _ _ _ _ _ _ x1 t1 mm1.out mm1.out).mono ?_
  rintro e w11 ⟨rfl, hb⟩
  replace h0 := h0.below hb (.inr (Nat.le_refl _))
  replace h1 := h1.below hb (.inr (Nat.le_refl _))
  replace rw0 := rw0.below hb (.inr (Nat.le_refl _))
  replace x0 := x0.below hb (.inr (Nat.le_refl _))
  replace x1 := x1.below hb (.inr (Nat.le_refl _))
  replace rg0 := rg0.below hb (.inr (Nat.le_refl _))
  replace t1 := t1.below hb (.inr (Nat.le_refl _))
  replace bel := bel.trans (hb.mono bel.size)
  have zw11 := hb.size
  clear hb
  go_wp2_with fail
  refine (markTermS_calls _ _ _ _ (1) w11 _ _ x0 ns0 (by omega) (by omega)).mono ?_
  rintro e w12 ⟨rfl, x0m, ho⟩
  have zw12 := ho.size
  replace h0 := h0.only ho (by omega)
  replace h1 := h1.only ho (by omega)
  replace rw0 := rw0.only ho (by omega)
  replace x1 := x1.only ho (by omega)
  replace rg0 := rg0.only ho (by omega)
  replace bel := Only.below bel ho (by omega) bel.size
  clear ho
  go_wp2_with fail
  refine (markInt64S_calls _ _ _ _ (1 + 2 * (n0 : Int)) w12 _ _ x1 ns1 (by omega) (by omega)).mono ?_
  rintro e w13 ⟨rfl, x1m, ho⟩
  have zw13 := ho.size
  replace h0 := h0.only ho (by omega)
  replace h1 := h1.only ho (by omega)
  replace rw0 := rw0.only ho (by omega)
  replace rg0 := rg0.only ho (by omega)
  replace x0m := x0m.only ho (by omega)
  replace bel := Only.below bel ho (by omega) bel.size
  clear ho
  have hq := eqInt64SS_calls _ _ _ _ dg0 dw0 _ _ w13 _ _ _ _ rg0 rw0 (by omega) (by omega)
  rw [decide_eq_true (vg0.trans vw0.symm)] at hq
  replace hq := hide hq
  go_wp2_with fail
  refine (hq.out).mono ?_
  rintro e w14 ⟨rfl, hb⟩
  clear hq
  replace h0 := h0.below hb (.inr (Nat.le_refl _))
  replace h1 := h1.below hb (.inr (Nat.le_refl _))
  replace rw0 := rw0.below hb (.inr (Nat.le_refl _))
  replace rg0 := rg0.below hb (.inr (Nat.le_refl _))
  replace x0m := x0m.below hb (.inr (Nat.le_refl _))
  replace x1m := x1m.below hb (.inr (Nat.le_refl _))
  replace bel := bel.trans (hb.mono bel.size)
  have zw14 := hb.size
  clear hb
  go_wp2_with fail
  refine (markInt64SS_calls _ _ _ Rg0 (1) w14 _ _ rg0 yg0 (by omega) (by omega)).mono ?_
  rintro e w15 ⟨rfl, Sg0, hSg0, rg0m, kg0, ho⟩
  replace kg0 := hide kg0
  have zw15 := ho.size
  replace h0 := h0.only ho (by omega)
  replace h1 := h1.only ho (by omega)
  replace rw0 := rw0.only ho (by omega)
  replace x0m := x0m.only ho (by omega)
  replace x1m := x1m.only ho (by omega)
  replace bel := Only.below bel ho (by omega) bel.size
  clear ho
  have hh := heldInt64SS_calls _ _ dg0 Sg0 (1) w15 _ _ rg0m yg0 (by omega) (by rw [hSg0]; omega) kg0.out
  rw [hSg0] at hh
  replace hh := hide hh
  go_wp2_with fail
  refine (hh.out).mono ?_
  rintro e w' ⟨rfl, rfl⟩
  clear hh
  go_wp2_with fail
  refine (toTermS_calls A0 n0 c0 l0 w15 _ _ h0 ns0).mono ?_
  rintro e w16 ⟨Bu0, rfl, hb, u0⟩
  replace h0 := h0.below hb (.inr (Nat.le_refl _))
  replace h1 := h1.below hb (.inr (Nat.le_refl _))
  replace rw0 := rw0.below hb (.inr (Nat.le_refl _))
  replace x0m := x0m.below hb (.inr (Nat.le_refl _))
  replace x1m := x1m.below hb (.inr (Nat.le_refl _))
  replace rg0m := rg0m.below hb (.inr (Nat.le_refl _))
  replace bel := bel.trans (hb.mono bel.size)
  have zw16 := hb.size
  clear hb
  go_wp2_with fail
  refine (toInt64S_calls A1 n1 c1 l1 w16 _ _ h1 ns1).mono ?_
  rintro e w17 ⟨Bu1, rfl, hb, u1⟩
  replace h0 := h0.below hb (.inr (Nat.le_refl _))
  replace h1 := h1.below hb (.inr (Nat.le_refl _))
  replace rw0 := rw0.below hb (.inr (Nat.le_refl _))
  replace x0m := x0m.below hb (.inr (Nat.le_refl _))
  replace x1m := x1m.below hb (.inr (Nat.le_refl _))
  replace rg0m := rg0m.below hb (.inr (Nat.le_refl _))
  replace u0 := u0.below hb (.inr (Nat.le_refl _))
  replace bel := bel.trans (hb.mono bel.size)
  have zw17 := hb.size
  clear hb
  go_wp2_with fail
  refine (implSolutionsOf_std w17 _ _ _ _ _ u0 ns0 _ _ _ _ _ u1 ns1).mono ?_
  rintro e w18 ⟨Ch0, qh0, dh0, Rh0, rfl, yh0, eh0, vh0, rh0, hb⟩
  replace h0 := h0.below hb (.inr (Nat.le_refl _))
  replace h1 := h1.below hb (.inr (Nat.le_refl _))
  replace rw0 := rw0.below hb (.inr (Nat.le_refl _))
  replace x0m := x0m.below hb (.inr (Nat.le_refl _))
  replace x1m := x1m.below hb (.inr (Nat.le_refl _))
  replace rg0m := rg0m.below hb (.inr (Nat.le_refl _))
  replace u0 := u0.below hb (.inr (Nat.le_refl _))
  replace u1 := u1.below hb (.inr (Nat.le_refl _))
  replace bel := bel.trans (hb.mono bel.size)
  have zw18 := hb.size
  clear hb
  have hq := eqInt64SS_calls _ _ _ _ dh0 dw0 _ _ w18 _ _ _ _ rh0 rw0 (by omega) (by omega)
  rw [decide_eq_true (vh0.trans vw0.symm)] at hq
  replace hq := hide hq
  go_wp2_with fail
  refine (hq.out).mono ?_
  rintro e w19 ⟨rfl, hb⟩
  clear hq
  replace h0 := h0.below hb (.inr (Nat.le_refl _))
  replace h1 := h1.below hb (.inr (Nat.le_refl _))
  replace rw0 := rw0.below hb (.inr (Nat.le_refl _))
  replace x0m := x0m.below hb (.inr (Nat.le_refl _))
  replace x1m := x1m.below hb (.inr (Nat.le_refl _))
  replace rg0m := rg0m.below hb (.inr (Nat.le_refl _))
  replace u0 := u0.below hb (.inr (Nat.le_refl _))
  replace u1 := u1.below hb (.inr (Nat.le_refl _))
  replace rh0 := rh0.below hb (.inr (Nat.le_refl _))
  replace bel := bel.trans (hb.mono bel.size)
  have zw19 := hb.size
  clear hb
  have hh := heldInt64SS_calls _ _ dg0 Sg0 (1) w19 _ _ rg0m yg0 (by omega) (by rw [hSg0]; omega) kg0.out
  rw [hSg0] at hh
  replace hh := hide hh
  go_wp2_with fail
  refine (hh.out).mono ?_
  rintro e w' ⟨rfl, rfl⟩
  clear hh
  go_wp2_with fail
  go_ret
  exact ⟨rfl, bel⟩

set_option maxRecDepth 100000 in
theorem lifted (os : Os) (started : os.Started) (H : Type) (enc : TypeId × Value → H) :
    ReturnsInHanded {} Try.checked os 10 .any (Rows.fnExactSolutionsOfSpec.pre6 enc Try.prog Try.f10 Rows.fnExactSolutionsOfRow.domain false) (Rows.fnExactSolutionsOfSpec.post enc Try.prog Try.f10 false true false false) := by
  refine returnsInHanded_of_change (C := Try.checked) own started (by kernel_rfl) Try.func10
    (ChangeSpec.witness6 (enc := enc) (C := Try.checked) false ⟨#[], #[.slice none 0 0, .slice none 0 0], []⟩ 8 (by kernel_rfl) (by kernel_rfl) (by kernel_rfl) (by kernel_rfl)) ?_
  intro W base args ds gs before hval0 hW hcnd _
  have hval : ∀ (j : Nat) t v, Try.f10.params[j]? = some t → args[j]? = some v → Value.okWide Try.prog W .any base t v := hval0
  have hW' := hW
  obtain ⟨p, q, hA0, hV, rfl, hfz, hnd⟩ := hW
  have hA : DataW.TrodAll enc Try.prog W 0 (fun _ => true) true Try.f10.params.toList args.toList ds p := hA0
  rw [Try.params10] at hA hval
  obtain ⟨v0, vs0, d0, ds0, p0, q0, hargs, rfl, rfl, h0, r0⟩ := trodAll_cons hA
  obtain ⟨v1, vs1, d1, ds1, p1, q1, rfl, rfl, rfl, h1, r1⟩ := trodAll_cons r0
  obtain ⟨rfl, rfl, rfl⟩ := trodAll_nil r1
  obtain rfl : args = #[v0, v1] := by cases args; simp_all
  obtain ⟨rfl, rfl⟩ := trodVars_none hV
  have lt0 : ∀ x ∈ p0, x.block < W.heap.size := by obtain ⟨m, hm⟩ := h0; exact DataW.trod_lt m _ _ _ hm
  have k0 := h0
  obtain ⟨A', n', c', e0⟩ := okWide_slice Try.underlying22 (hval 0 22 v0 rfl rfl)
  obtain ⟨A0, n0, c0, l0, rfl, hn0, hl0⟩ := open_SlT Try.underlying22 Try.underlying74 (by kernel_rfl) (by kernel_rfl) rfl rfl Try.underlying2 h0 e0 (fun b off hp => hfz b off (by simp [hp]))
  have lt1 : ∀ x ∈ p1, x.block < W.heap.size := by obtain ⟨m, hm⟩ := h1; exact DataW.trod_lt m _ _ _ hm
  have k1 := h1
  obtain ⟨A', n', c', e1⟩ := okWide_slice Try.underlying44 (hval 1 44 v1 rfl rfl)
  obtain ⟨A1, n1, c1, l1, rfl, hn1, hl1⟩ := open_SlI Try.underlying44 (by kernel_rfl) Try.underlying2 h1 e1 (fun b off hp => hfz b off (by simp [hp]))
  clear hA0 hval0
  refine (walk A0 n0 c0 l0 A1 n1 c1 l1 W hl0 hn0 hl1 hn1).mono fun e W' ⟨he, bel⟩ => ?_
  subst he
  exact ⟨_, rfl, _, _, _, [], _, [], hW', trodAll_mk1 (shut_bool Try.underlying4 _), (trodAll_cons_mk (Below.trod laidOut (by kernel_rfl) (of_decide_eq_true (by kernel_rfl)) k0 bel lt0) (trodAll_cons_mk (Below.trod laidOut (by kernel_rfl) (of_decide_eq_true (by kernel_rfl)) k1 bel lt1) trodAll_mk0)), rfl, bel.frame _, fun h => by cases h⟩

theorem over : Rows.fnExactSolutionsOfRow.holds Try.pinned (OpenSpec.ofChange Rows.fnExactSolutionsOfSpec) :=
  OpenClaim.holds_of_wide 10 Try.f10 rfl rfl rfl rfl rfl rfl rfl ⟨rfl, rfl, rfl, rfl, rfl⟩ rfl rfl rfl rfl rfl (by kernel_rfl) Try.func10 (by kernel_rfl)
    (of_decide_eq_true (by kernel_rfl)) (by unfold Func.isWrapper; first | (rw [if_pos (by decide +kernel)]; kernel_rfl) | (rw [if_neg (by decide +kernel)]; exact ⟨rfl, rfl⟩))
    (fun os started H enc _ => lifted os started H enc)

end Go.Proofs.Ytdjhpdmpibokhaa.lawSolutionsOf

namespace Go.Proofs.Ytdjhpdmpibokhaa
theorem fnExactSolutionsOf_holds : Rows.FnExactSolutionsOfSaid := lawSolutionsOf.over
end Go.Proofs.Ytdjhpdmpibokhaa
