/-
  The law FnExactPostfixOf returns true for every input. Conditions: none.
-/
import Derived.Test.YtdjhpdmpibokhaaPostfix
import Derived.Test.YtdjhpdmpibokhaaBoilT
import Derived.Test.YtdjhpdmpibokhaaBoilM
import Derived.Test.YtdjhpdmpibokhaaOpen
namespace Go.Proofs.Ytdjhpdmpibokhaa.lawPostfixOf
open Go.ChangeShapes Go.WideShapes Go.ChangeAt Go.RowKit
set_option linter.unusedVariables false

theorem own : ownKnob Try.prog.godebug = none := by kernel_rfl
theorem laidOut : laidOutB Try.prog = true := by kernel_rfl

theorem walk (A0 : Option Addr) (n0 c0 : Nat) (l0 : List (Int × Int)) (w : World) (h0 : SlT w 0 w.heap.size A0 n0 l0) (hm0 : n0 ≤ maxLen) :
    Calls Try.prog 4 #[.slice A0 n0 c0] w fun e w' => e = .returned (.bool true) ∧ Below w.heap.size w w' := by
  have mm0 := hide hm0
  have mx0 : n0 ≤ 9223372036854775807 := by have := hm0; unfold maxLen at this; omega
  clear hm0
  have sz0 := szTermS_calls A0 n0 c0 (1048576) w mm0.out (by omega) (by omega)
  by_cases big0 : 1048576 < (n0 : Int)
  · rw [if_pos big0] at sz0
    replace sz0 := hide sz0
    clear h0
    go_enter Try.func4, Try.ntmps4
    go_wp2_with (first | (go_at_call 12; (with_reducible refine sz0.out.mono ?_); rintro e w' ⟨rfl, rfl⟩))
    go_ret
    exact ⟨rfl, Below.refl _ _⟩
  rw [if_neg big0] at sz0
  replace sz0 := hide sz0
  have ns0 : n0 ≤ 1048576 := by omega
  have bel := Below.refl w.heap.size w
  go_enter Try.func4, Try.ntmps4
  go_wp2_with (first | (go_at_call 12; (with_reducible refine sz0.out.mono ?_); rintro e w' ⟨rfl, rfl⟩))
  clear sz0
  refine (toTermS_calls A0 n0 c0 l0 w _ _ h0 ns0).mono ?_
  rintro e w1 ⟨Bs0, rfl, hb, s0⟩
  replace h0 := h0.below hb (.inr (Nat.le_refl _))
  replace bel := bel.trans (hb.mono bel.size)
  have zw1 := hb.size
  clear hb
  go_wp2_with fail
  refine (specPostfixOf_std w1 _ _ _ _ _ s0 ns0).mono ?_
  rintro e w2 ⟨Cw0, qw0, dw0, rfl, yw0, rw0, hb⟩
  replace h0 := h0.below hb (.inr (Nat.le_refl _))
  replace s0 := s0.below hb (.inr (Nat.le_refl _))
  replace bel := bel.trans (hb.mono bel.size)
  have zw2 := hb.size
  clear hb
  go_wp2_with fail
  refine (toTermS_calls A0 n0 c0 l0 w2 _ _ h0 ns0).mono ?_
  rintro e w3 ⟨Bx0, rfl, hb, x0⟩
  replace h0 := h0.below hb (.inr (Nat.le_refl _))
  replace rw0 := rw0.below hb (.inr (Nat.le_refl _))
  replace bel := bel.trans (hb.mono bel.size)
  have zw3 := hb.size
  clear hb
  go_wp2_with fail
  refine (implPostfixOf_std w3 _ _ _ _ _ x0 ns0).mono ?_
  rintro e w4 ⟨Cg0, qg0, dg0, rfl, yg0, rg0, hb⟩
  replace h0 := h0.below hb (.inr (Nat.le_refl _))
  replace rw0 := rw0.below hb (.inr (Nat.le_refl _))
  replace x0 := x0.below hb (.inr (Nat.le_refl _))
  replace bel := bel.trans (hb.mono bel.size)
  have zw4 := hb.size
  clear hb
  go_wp2_with fail
  refine (eqTermS_calls _ _ _ _ _ _ _ _ _ _ _ _ _ rg0 rw0 (by unfold maxLen; omega) (by unfold maxLen; omega)).mono ?_
  rintro e w5 ⟨rfl, hb⟩
  replace h0 := h0.below hb (.inr (Nat.le_refl _))
  replace rw0 := rw0.below hb (.inr (Nat.le_refl _))
  replace x0 := x0.below hb (.inr (Nat.le_refl _))
  replace rg0 := rg0.below hb (.inr (Nat.le_refl _))
  replace bel := bel.trans (hb.mono bel.size)
  have zw5 := hb.size
  clear hb
  go_wp2_with fail
  refine (toTermS_calls A0 n0 c0 l0 w5 _ _ h0 ns0).mono ?_
  rintro e w6 ⟨Bt0, rfl, hb, t0⟩
  replace h0 := h0.below hb (.inr (Nat.le_refl _))
  replace rw0 := rw0.below hb (.inr (Nat.le_refl _))
  replace x0 := x0.below hb (.inr (Nat.le_refl _))
  replace rg0 := rg0.below hb (.inr (Nat.le_refl _))
  replace bel := bel.trans (hb.mono bel.size)
  have zw6 := hb.size
  clear hb
  go_wp2_with fail
  refine (eqTermS_calls _ _ _ _ _ _ _ _ _ _ _ _ _ x0 t0 mm0.out mm0.out).mono ?_
  rintro e w7 ⟨rfl, hb⟩
  replace h0 := h0.below hb (.inr (Nat.le_refl _))
  replace rw0 := rw0.below hb (.inr (Nat.le_refl _))
  replace x0 := x0.below hb (.inr (Nat.le_refl _))
  replace rg0 := rg0.below hb (.inr (Nat.le_refl _))
  replace t0 := t0.below hb (.inr (Nat.le_refl _))
  replace bel := bel.trans (hb.mono bel.size)
  have zw7 := hb.size
  clear hb
  go_wp2_with fail
  refine (markTermS_calls _ _ _ _ (1) w7 _ _ x0 ns0 (by omega) (by omega)).mono ?_
  rintro e w8 ⟨rfl, x0m, ho⟩
  have zw8 := ho.size
  replace h0 := h0.only ho (by omega)
  replace rw0 := rw0.only ho (by omega)
  replace rg0 := rg0.only ho (by omega)
  replace bel := Only.below bel ho (by omega) bel.size
  clear ho
  go_wp2_with fail
  refine (eqTermS_calls _ _ _ _ _ _ _ _ _ _ _ _ _ rg0 rw0 (by unfold maxLen; omega) (by unfold maxLen; omega)).mono ?_
  rintro e w9 ⟨rfl, hb⟩
  replace h0 := h0.below hb (.inr (Nat.le_refl _))
  replace rw0 := rw0.below hb (.inr (Nat.le_refl _))
  replace rg0 := rg0.below hb (.inr (Nat.le_refl _))
  replace x0m := x0m.below hb (.inr (Nat.le_refl _))
  replace bel := bel.trans (hb.mono bel.size)
  have zw9 := hb.size
  clear hb
  go_wp2_with fail
  refine (markTermS_calls _ _ _ _ (1) w9 _ _ rg0 yg0 (by omega) (by omega)).mono ?_
  rintro e w10 ⟨rfl, rg0m, ho⟩
  have zw10 := ho.size
  replace h0 := h0.only ho (by omega)
  replace rw0 := rw0.only ho (by omega)
  replace x0m := x0m.only ho (by omega)
  replace bel := Only.below bel ho (by omega) bel.size
  clear ho
  go_wp2_with fail
  refine (heldTermS_calls _ _ _ _ (1) w10 _ _ rg0m yg0 (by omega) (by omega) (fun i hi => markT_get _ _ _ i hi (by have := rg0m.len; rw [markT_len] at this; rw [this]; exact hi))).mono ?_
  rintro e w' ⟨rfl, rfl⟩
  go_wp2_with fail
  refine (toTermS_calls A0 n0 c0 l0 w10 _ _ h0 ns0).mono ?_
  rintro e w11 ⟨Bu0, rfl, hb, u0⟩
  replace h0 := h0.below hb (.inr (Nat.le_refl _))
  replace rw0 := rw0.below hb (.inr (Nat.le_refl _))
  replace x0m := x0m.below hb (.inr (Nat.le_refl _))
  replace rg0m := rg0m.below hb (.inr (Nat.le_refl _))
  replace bel := bel.trans (hb.mono bel.size)
  have zw11 := hb.size
  clear hb
  go_wp2_with fail
  refine (implPostfixOf_std w11 _ _ _ _ _ u0 ns0).mono ?_
  rintro e w12 ⟨Ch0, qh0, dh0, rfl, yh0, rh0, hb⟩
  replace h0 := h0.below hb (.inr (Nat.le_refl _))
  replace rw0 := rw0.below hb (.inr (Nat.le_refl _))
  replace x0m := x0m.below hb (.inr (Nat.le_refl _))
  replace rg0m := rg0m.below hb (.inr (Nat.le_refl _))
  replace u0 := u0.below hb (.inr (Nat.le_refl _))
  replace bel := bel.trans (hb.mono bel.size)
  have zw12 := hb.size
  clear hb
  go_wp2_with fail
  refine (eqTermS_calls _ _ _ _ _ _ _ _ _ _ _ _ _ rh0 rw0 (by unfold maxLen; omega) (by unfold maxLen; omega)).mono ?_
  rintro e w13 ⟨rfl, hb⟩
  replace h0 := h0.below hb (.inr (Nat.le_refl _))
  replace rw0 := rw0.below hb (.inr (Nat.le_refl _))
  replace x0m := x0m.below hb (.inr (Nat.le_refl _))
  replace rg0m := rg0m.below hb (.inr (Nat.le_refl _))
  replace u0 := u0.below hb (.inr (Nat.le_refl _))
  replace rh0 := rh0.below hb (.inr (Nat.le_refl _))
  replace bel := bel.trans (hb.mono bel.size)
  have zw13 := hb.size
  clear hb
  go_wp2_with fail
  refine (heldTermS_calls _ _ _ _ (1) w13 _ _ rg0m yg0 (by omega) (by omega) (fun i hi => markT_get _ _ _ i hi (by have := rg0m.len; rw [markT_len] at this; rw [this]; exact hi))).mono ?_
  rintro e w' ⟨rfl, rfl⟩
  go_wp2_with fail
  go_ret
  exact ⟨rfl, bel⟩

set_option maxRecDepth 100000 in
theorem lifted (os : Os) (started : os.Started) (H : Type) (enc : TypeId × Value → H) :
    ReturnsInHanded {} Try.checked os 4 .any (Rows.fnExactPostfixOfSpec.pre6 enc Try.prog Try.f4 Rows.fnExactPostfixOfRow.domain false) (Rows.fnExactPostfixOfSpec.post enc Try.prog Try.f4 false true false false) := by
  refine returnsInHanded_of_change (C := Try.checked) own started (by kernel_rfl) Try.func4
    (ChangeSpec.witness6 (enc := enc) (C := Try.checked) false ⟨#[], #[.slice none 0 0], []⟩ 8 (by kernel_rfl) (by kernel_rfl) (by kernel_rfl) (by kernel_rfl)) ?_
  intro W base args ds gs before hval0 hW hcnd _
  have hval : ∀ (j : Nat) t v, Try.f4.params[j]? = some t → args[j]? = some v → Value.okWide Try.prog W .any base t v := hval0
  have hW' := hW
  obtain ⟨p, q, hA0, hV, rfl, hfz, hnd⟩ := hW
  have hA : DataW.TrodAll enc Try.prog W 0 (fun _ => true) true Try.f4.params.toList args.toList ds p := hA0
  rw [Try.params4] at hA hval
  obtain ⟨v0, vs0, d0, ds0, p0, q0, hargs, rfl, rfl, h0, r0⟩ := trodAll_cons hA
  obtain ⟨rfl, rfl, rfl⟩ := trodAll_nil r0
  obtain rfl : args = #[v0] := by cases args; simp_all
  obtain ⟨rfl, rfl⟩ := trodVars_none hV
  have lt0 : ∀ x ∈ p0, x.block < W.heap.size := by obtain ⟨m, hm⟩ := h0; exact DataW.trod_lt m _ _ _ hm
  have k0 := h0
  obtain ⟨A', n', c', e0⟩ := okWide_slice Try.underlying22 (hval 0 22 v0 rfl rfl)
  obtain ⟨A0, n0, c0, l0, rfl, hn0, hl0⟩ := open_SlT Try.underlying22 Try.underlying74 (by kernel_rfl) (by kernel_rfl) rfl rfl Try.underlying2 h0 e0 (fun b off hp => hfz b off (by simp [hp]))
  clear hA0 hval0
  refine (walk A0 n0 c0 l0 W hl0 hn0).mono fun e W' ⟨he, bel⟩ => ?_
  subst he
  exact ⟨_, rfl, _, _, _, [], _, [], hW', trodAll_mk1 (shut_bool Try.underlying4 _), (trodAll_cons_mk (Below.trod laidOut (by kernel_rfl) (of_decide_eq_true (by kernel_rfl)) k0 bel lt0) trodAll_mk0), rfl, bel.frame _, fun h => by cases h⟩

theorem over : Rows.fnExactPostfixOfRow.holds Try.pinned (OpenSpec.ofChange Rows.fnExactPostfixOfSpec) :=
  OpenClaim.holds_of_wide 4 Try.f4 rfl rfl rfl rfl rfl rfl rfl ⟨rfl, rfl, rfl, rfl, rfl⟩ rfl rfl rfl rfl rfl (by kernel_rfl) Try.func4 (by kernel_rfl)
    (of_decide_eq_true (by kernel_rfl)) (by unfold Func.isWrapper; first | (rw [if_pos (by decide +kernel)]; kernel_rfl) | (rw [if_neg (by decide +kernel)]; exact ⟨rfl, rfl⟩))
    (fun os started H enc _ => lifted os started H enc)

end Go.Proofs.Ytdjhpdmpibokhaa.lawPostfixOf

namespace Go.Proofs.Ytdjhpdmpibokhaa
theorem fnExactPostfixOf_holds : Rows.FnExactPostfixOfSaid := lawPostfixOf.over
end Go.Proofs.Ytdjhpdmpibokhaa
