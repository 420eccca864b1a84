/-
  The law FnExactStrategyOf returns true for every input. Conditions: none.
-/
import Derived.Test.YtbnneahjjcamlaaStratU
import Derived.Test.YtbnneahjjcamlaaRows
namespace Go.Proofs.Ytbnneahjjcamlaa.lawStrategyOf
open Go.ChangeShapes Go.WideShapes Go.ChangeAt Go.RowKit
set_option linter.unusedVariables false

theorem own : ownKnob Try.prog.godebug = none := by kernel_rfl
theorem laidOut : laidOutB Try.prog = true := by kernel_rfl

set_option maxHeartbeats 1600000 in
theorem walk (v0 : Value) (d0 : DV) (w : World) (h0 : ArgV w 0 w.heap.size v0 d0) :
    Calls Try.prog 4 #[v0] w fun e w' => e = .returned (.bool true) ∧ Below w.heap.size w w' := by
  have sz0 := fun W (hW : Below w.heap.size w W) => szVertexS_u (left := 1048576) (h0.below hW (.inr (Nat.le_refl _))) (by omega) (by omega)
  by_cases big0 : 1048576 < (totV d0 : Int)
  · simp only [szLeft_big big0] at sz0
    replace sz0 := hide sz0
    clear h0
    have bel := Below.refl w.heap.size w
    go_enter Try.func4, Try.ntmps4
    go_wp2_with fail
    refine (sz0.out _ bel).mono ?_
    rintro e ww0 ⟨rfl, hb⟩
    replace bel := bel.trans (hb.mono bel.size)
    clear hb
    go_wp2_with fail
    go_ret
    exact ⟨rfl, bel⟩
  simp only [szLeft_fits big0] at sz0
  replace sz0 := hide sz0
  have ns0 : totV d0 ≤ 1048576 := by omega
  have bel := Below.refl w.heap.size w
  go_enter Try.func4, Try.ntmps4
  go_wp2_with fail
  refine (sz0.out _ bel).mono ?_
  rintro e ww0 ⟨rfl, hb⟩
  replace h0 := h0.below hb (.inr (Nat.le_refl _))
  replace bel := bel.trans (hb.mono bel.size)
  have zww0 := hb.size
  clear hb
  go_wp2_with fail
  clear sz0
  refine (toVertexS_u h0 ns0).mono ?_
  rintro e w1 ⟨us0, rfl, s0, hb⟩
  replace h0 := h0.below hb (.inr (Nat.le_refl _))
  replace bel := bel.trans (hb.mono bel.size)
  have zw1 := hb.size
  clear hb
  go_wp2_with fail
  refine (specStrategyOf_u (w := w1) s0).mono ?_
  rintro e w2 ⟨uw0, rfl, rw0, hb⟩
  replace h0 := h0.below hb (.inr (Nat.le_refl _))
  replace s0 := s0.below hb (.inr (Nat.le_refl _))
  replace bel := bel.trans (hb.mono bel.size)
  have zw2 := hb.size
  clear hb
  go_wp2_with fail
  refine (toVertexS_u h0 ns0).mono ?_
  rintro e w3 ⟨ux0, rfl, x0, hb⟩
  replace h0 := h0.below hb (.inr (Nat.le_refl _))
  replace rw0 := rw0.below hb (.inr (Nat.le_refl _))
  replace bel := bel.trans (hb.mono bel.size)
  have zw3 := hb.size
  clear hb
  go_wp2_with fail
  refine (implStrategyOf_u (w := w3) x0).mono ?_
  rintro e w4 ⟨ug0, rfl, rg0, hb⟩
  replace h0 := h0.below hb (.inr (Nat.le_refl _))
  replace rw0 := rw0.below hb (.inr (Nat.le_refl _))
  replace x0 := x0.below hb (.inr (Nat.le_refl _))
  replace bel := bel.trans (hb.mono bel.size)
  have zw4 := hb.size
  clear hb
  go_wp2_with fail
  refine (eqInt64S_u rg0 rw0).mono ?_
  rintro e w5 ⟨rfl, hb⟩
  replace h0 := h0.below hb (.inr (Nat.le_refl _))
  replace rw0 := rw0.below hb (.inr (Nat.le_refl _))
  replace x0 := x0.below hb (.inr (Nat.le_refl _))
  replace rg0 := rg0.below hb (.inr (Nat.le_refl _))
  replace bel := bel.trans (hb.mono bel.size)
  have zw5 := hb.size
  clear hb
  go_wp2_with fail
  refine (toVertexS_u h0 ns0).mono ?_
  rintro e w6 ⟨ut0, rfl, t0, hb⟩
  replace h0 := h0.below hb (.inr (Nat.le_refl _))
  replace rw0 := rw0.below hb (.inr (Nat.le_refl _))
  replace x0 := x0.below hb (.inr (Nat.le_refl _))
  replace rg0 := rg0.below hb (.inr (Nat.le_refl _))
  replace bel := bel.trans (hb.mono bel.size)
  have zw6 := hb.size
  clear hb
  go_wp2_with fail
  refine (eqVertexS_u x0 t0).mono ?_
  rintro e w7 ⟨rfl, hb⟩
  replace h0 := h0.below hb (.inr (Nat.le_refl _))
  replace rw0 := rw0.below hb (.inr (Nat.le_refl _))
  replace x0 := x0.below hb (.inr (Nat.le_refl _))
  replace rg0 := rg0.below hb (.inr (Nat.le_refl _))
  replace t0 := t0.below hb (.inr (Nat.le_refl _))
  replace bel := bel.trans (hb.mono bel.size)
  have zw7 := hb.size
  clear hb
  go_wp2_with fail
  refine (markVertexS_u (m := 1) x0 (by omega) (by omega)).mono ?_
  rintro e w8 ⟨k50, rfl, ka0, kb0, ho⟩
  have zw8 := ho.size
  replace h0 := h0.only ho (by omega)
  replace rw0 := rw0.only ho (by omega)
  replace rg0 := rg0.only ho (by omega)
  replace bel := Only.below bel ho (by omega) bel.size
  clear ho
  go_wp2_with fail
  refine (eqInt64S_u rg0 rw0).mono ?_
  rintro e w9 ⟨rfl, hb⟩
  replace h0 := h0.below hb (.inr (Nat.le_refl _))
  replace rw0 := rw0.below hb (.inr (Nat.le_refl _))
  replace rg0 := rg0.below hb (.inr (Nat.le_refl _))
  replace bel := bel.trans (hb.mono bel.size)
  have zw9 := hb.size
  clear hb
  go_wp2_with fail
  refine (markInt64S_u (m := 1) rg0 (by omega) (by omega)).mono ?_
  rintro e w10 ⟨m0, dm0, rfl, ma0, mb0, ho, rgm0, hm0⟩
  have zw10 := ho.size
  replace h0 := h0.only ho (by omega)
  replace rw0 := rw0.only ho (by omega)
  replace bel := Only.below bel ho (by omega) bel.size
  clear ho
  go_wp2_with fail
  refine (heldInt64S_u rgm0 hm0).mono ?_
  rintro e w' ⟨rfl, rfl⟩
  go_wp2_with fail
  refine (toVertexS_u h0 ns0).mono ?_
  rintro e w11 ⟨uy0, rfl, y0, hb⟩
  replace h0 := h0.below hb (.inr (Nat.le_refl _))
  replace rw0 := rw0.below hb (.inr (Nat.le_refl _))
  replace rgm0 := rgm0.below hb (.inr (Nat.le_refl _))
  replace bel := bel.trans (hb.mono bel.size)
  have zw11 := hb.size
  clear hb
  go_wp2_with fail
  refine (implStrategyOf_u (w := w11) y0).mono ?_
  rintro e w12 ⟨uh0, rfl, rh0, hb⟩
  replace h0 := h0.below hb (.inr (Nat.le_refl _))
  replace rw0 := rw0.below hb (.inr (Nat.le_refl _))
  replace rgm0 := rgm0.below hb (.inr (Nat.le_refl _))
  replace y0 := y0.below hb (.inr (Nat.le_refl _))
  replace bel := bel.trans (hb.mono bel.size)
  have zw12 := hb.size
  clear hb
  go_wp2_with fail
  refine (eqInt64S_u rh0 rw0).mono ?_
  rintro e w13 ⟨rfl, hb⟩
  replace h0 := h0.below hb (.inr (Nat.le_refl _))
  replace rw0 := rw0.below hb (.inr (Nat.le_refl _))
  replace rgm0 := rgm0.below hb (.inr (Nat.le_refl _))
  replace y0 := y0.below hb (.inr (Nat.le_refl _))
  replace rh0 := rh0.below hb (.inr (Nat.le_refl _))
  replace bel := bel.trans (hb.mono bel.size)
  have zw13 := hb.size
  clear hb
  go_wp2_with fail
  refine (heldInt64S_u rgm0 hm0).mono ?_
  rintro e w' ⟨rfl, rfl⟩
  go_wp2_with fail
  go_ret
  exact ⟨rfl, bel⟩

set_option maxRecDepth 100000 in
theorem lifted (os : Os) (started : os.Started) (H : Type) (enc : TypeId × Value → H) :
    ReturnsInHanded {} Try.checked os 4 .any (Rows.fnExactStrategyOfSpec.pre6 enc Try.prog Try.f4 Rows.fnExactStrategyOfRow.domain false) (Rows.fnExactStrategyOfSpec.post enc Try.prog Try.f4 false true false false) := by
  refine returnsInHanded_of_change (C := Try.checked) own started (by kernel_rfl) Try.func4
    (ChangeSpec.witness6 (enc := enc) (C := Try.checked) false ⟨#[], #[.slice none 0 0], []⟩ 8 (by kernel_rfl) (by kernel_rfl) (by kernel_rfl) (by kernel_rfl)) ?_
  intro W base args ds gs before hval0 hW hcnd _
  have hval : ∀ (j : Nat) t v, Try.f4.params[j]? = some t → args[j]? = some v → Value.okWide Try.prog W .any base t v := hval0
  have hW' := hW
  obtain ⟨p, q, hA0, hV, rfl, hfz, hnd⟩ := hW
  have hA : DataW.TrodAll enc Try.prog W 0 (fun _ => true) true Try.f4.params.toList args.toList ds p := hA0
  rw [Try.params4] at hA hval
  obtain ⟨v0, vs0, d0, ds0, p0, q0, hargs, rfl, rfl, h0, r0⟩ := trodAll_cons hA
  obtain ⟨rfl, rfl, rfl⟩ := trodAll_nil r0
  obtain rfl : args = #[v0] := by cases args; simp_all
  obtain ⟨rfl, rfl⟩ := trodVars_none hV
  have lt0 : ∀ x ∈ p0, x.block < W.heap.size := by obtain ⟨m, hm⟩ := h0; exact DataW.trod_lt m _ _ _ hm
  obtain ⟨A', n', c', e0⟩ := okWide_slice Try.underlying22 (hval 0 22 v0 rfl rfl)
  obtain ⟨x0, a0⟩ := open_V h0 e0 (fun b off hp => hfz b off (by simp [hp]))
  clear hA0 hval0
  refine (walk v0 x0 W a0).mono fun e W' ⟨he, bel⟩ => ?_
  subst he
  exact ⟨_, rfl, _, _, _, [], _, [], hW', trodAll_mk1 (shut_bool Try.underlying4 _), (trodAll_cons_mk (Below.trod laidOut (by kernel_rfl) (of_decide_eq_true (by kernel_rfl)) h0 bel lt0) trodAll_mk0), rfl, bel.frame _, fun h => by cases h⟩

theorem over : Rows.fnExactStrategyOfRow.holds Try.pinned (OpenSpec.ofChange Rows.fnExactStrategyOfSpec) :=
  OpenClaim.holds_of_wide 4 Try.f4 rfl rfl rfl rfl rfl rfl rfl ⟨rfl, rfl, rfl, rfl, rfl⟩ rfl rfl rfl rfl rfl (by kernel_rfl) Try.func4 (by kernel_rfl)
    (of_decide_eq_true (by kernel_rfl)) (by unfold Func.isWrapper; first | (rw [if_pos (by decide +kernel)]; kernel_rfl) | (rw [if_neg (by decide +kernel)]; exact ⟨rfl, rfl⟩))
    (fun os started H enc _ => lifted os started H enc)

end Go.Proofs.Ytbnneahjjcamlaa.lawStrategyOf

namespace Go.Proofs.Ytbnneahjjcamlaa
theorem fnExactStrategyOf_holds : Rows.FnExactStrategyOfSaid := lawStrategyOf.over
end Go.Proofs.Ytbnneahjjcamlaa
