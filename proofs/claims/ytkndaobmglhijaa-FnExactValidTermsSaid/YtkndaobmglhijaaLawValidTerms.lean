/-
  The law FnExactValidTerms returns true for every input. Conditions: none.
-/
import Derived.Test.YtkndaobmglhijaaTerm1
import Derived.Test.YtkndaobmglhijaaBoilT
import Derived.Test.YtkndaobmglhijaaOpen
namespace Go.Proofs.Ytkndaobmglhijaa.lawValidTerms
open Go.ChangeShapes Go.WideShapes Go.ChangeAt Go.RowKit
set_option linter.unusedVariables false

theorem own : ownKnob Try.prog.godebug = none := by kernel_rfl
theorem laidOut : laidOutB Try.prog = true := by kernel_rfl

theorem walk (A : Option Addr) (n c : Nat) (l : List (Int × Int)) (v most : Int) (w : World) (lo : Nat) (h : SlT w lo w.heap.size A n l) (hn : n ≤ maxLen) :
    Calls Try.prog 3 #[.slice A n c, .int .i64 v, .int .i64 most] w fun e w' => e = .returned (.bool true) ∧ Below w.heap.size w w' := by
  have hsz := hide (szTermS_calls A n c 1048576 w hn (by omega) (by omega))
  by_cases hbig : (1048576 : Int) < n
  · have hsz := hsz.out
    rw [if_pos hbig] at hsz
    replace hsz := hide hsz
    go_enter Try.func3, Try.ntmps3
    go_wp2_with (first | (go_at_call 7; (with_reducible refine hsz.out.mono ?_); rintro e w' ⟨rfl, rfl⟩))
    go_ret
    exact ⟨rfl, Below.refl _ _⟩
  · have hsz := hsz.out
    rw [if_neg hbig] at hsz
    replace hsz := hide hsz
    have hn2 : n ≤ 1048576 := by omega
    have hnm := hide hn
    have h0 := h
    go_enter Try.func3, Try.ntmps3
    go_wp2_with (first | (go_at_call 7; (with_reducible refine hsz.out.mono ?_); rintro e w' ⟨rfl, rfl⟩))
    refine (toTermS_calls A n c l w _ _ h0 hn2).mono ?_
    rintro e w1 ⟨A1, rfl, hb1, h1⟩
    go_wp2_with fail
    refine (specValidTerms_calls _ _ _ _ _ _ _ _ _ h1 hn2).mono ?_
    rintro e w' ⟨rfl, rfl⟩
    go_wp2_with fail
    have h2 := h0.below hb1 (.inl (Nat.le_refl _))
    refine (toTermS_calls A n c l w1 _ _ h2 hn2).mono ?_
    rintro e w2 ⟨A2, rfl, hb2, h3⟩
    go_wp2_with fail
    refine (implValidTerms_calls _ _ _ _ _ _ _ _ _ h3 hn2).mono ?_
    rintro e w3 ⟨rfl, hb3⟩
    go_wp2_with fail
    have h4 := h2.below hb2 (.inr (Nat.le_refl _))
    have h5 := h4.below hb3 (.inr (Nat.le_refl _))
    have h6 := h3.below hb3 (.inr (Nat.le_refl _))
    refine (toTermS_calls A n c l w3 _ _ h5 hn2).mono ?_
    rintro e w4 ⟨A4, rfl, hb4, h7⟩
    go_wp2_with fail
    have h8 := h6.below hb4 (.inr (Nat.le_refl _))
    refine (eqTermS_calls _ _ _ _ _ _ l l _ _ _ _ _ h8 h7 hnm.out hnm.out).mono ?_
    rintro e w5 ⟨rfl, hb5⟩
    go_wp2_with fail
    go_ret
    exact ⟨rfl, hb1.trans ((hb2.mono hb1.size).trans ((hb3.mono (by have := hb1.size; have := hb2.size; omega)).trans ((hb4.mono (by have := hb1.size; have := hb2.size; have := hb3.size; omega)).trans (hb5.mono (by have := hb1.size; have := hb2.size; have := hb3.size; have := hb4.size; omega)))))⟩

set_option maxRecDepth 100000 in
theorem lifted (os : Os) (started : os.Started) (H : Type) (enc : TypeId × Value → H) :
    ReturnsInHanded {} Try.checked os 3 .any (Rows.fnExactValidTermsSpec.pre6 enc Try.prog Try.f3 Rows.fnExactValidTermsRow.domain false) (Rows.fnExactValidTermsSpec.post enc Try.prog Try.f3 false true false false) := by
  refine returnsInHanded_of_change (C := Try.checked) own started (by kernel_rfl) Try.func3
    (ChangeSpec.witness6 (enc := enc) (C := Try.checked) false ⟨#[], #[.slice none 0 0, .int .i64 0, .int .i64 0], []⟩ 8 (by kernel_rfl) (by kernel_rfl) (by kernel_rfl) (by kernel_rfl)) ?_
  intro W base args ds gs before hval0 hW hcnd _
  have hval : ∀ (j : Nat) t v, Try.f3.params[j]? = some t → args[j]? = some v → Value.okWide Try.prog W .any base t v := hval0
  have hW' := hW
  obtain ⟨p, q, hA0, hV, rfl, hfz, hnd⟩ := hW
  have hA : DataW.TrodAll enc Try.prog W 0 (fun _ => true) true Try.f3.params.toList args.toList ds p := hA0
  rw [Try.params3] at hA hval
  obtain ⟨v0, vs0, d0, ds0, p0, q0, hargs, rfl, rfl, h0, r0⟩ := trodAll_cons hA
  obtain ⟨v1, vs1, d1, ds1, p1, q1, rfl, rfl, rfl, h1, r1⟩ := trodAll_cons r0
  obtain ⟨v2, vs2, d2, ds2, p2, q2, rfl, rfl, rfl, h2, r2⟩ := trodAll_cons r1
  obtain ⟨rfl, rfl, rfl⟩ := trodAll_nil r2
  obtain rfl : args = #[v0, v1, v2] := by cases args; simp_all
  obtain ⟨rfl, rfl⟩ := trodVars_none hV
  have lt0 : ∀ x ∈ p0, x.block < W.heap.size := by obtain ⟨m, hm⟩ := h0; exact DataW.trod_lt m _ _ _ hm
  have k0 := h0
  obtain ⟨A', n', c', e0⟩ := okWide_slice Try.underlying22 (hval 0 22 v0 rfl rfl)
  obtain ⟨A, n, c, l, rfl, hn, hl⟩ := open_SlT Try.underlying22 Try.underlying40 (by kernel_rfl) (by kernel_rfl) rfl rfl Try.underlying2 h0 e0 (fun b off hp => hfz b off (by simp [hp]))
  obtain ⟨a1, rfl, rfl, rfl, w1⟩ := open_int Try.underlying2 (hval 1 2 v1 rfl rfl) h1
  obtain ⟨a2, rfl, rfl, rfl, w2⟩ := open_int Try.underlying2 (hval 2 2 v2 rfl rfl) h2
  clear hA0 hval0
  refine (walk A n c l a1 a2 W 0 hl hn).mono fun e W' ⟨he, bel⟩ => ?_
  subst he
  exact ⟨_, rfl, _, _, _, [], _, [], hW', trodAll_mk1 (shut_bool Try.underlying4 _), (trodAll_cons_mk (Below.trod laidOut (by kernel_rfl) (of_decide_eq_true (by kernel_rfl)) k0 bel lt0) (trodAll_cons_mk (shut_int Try.underlying2 w1) (trodAll_cons_mk (shut_int Try.underlying2 w2) trodAll_mk0))), rfl, bel.frame _, fun h => by cases h⟩

theorem over : Rows.fnExactValidTermsRow.holds Try.pinned (OpenSpec.ofChange Rows.fnExactValidTermsSpec) :=
  OpenClaim.holds_of_wide 3 Try.f3 rfl rfl rfl rfl rfl rfl rfl ⟨rfl, rfl, rfl, rfl, rfl⟩ rfl rfl rfl rfl rfl (by kernel_rfl) Try.func3 (by kernel_rfl)
    (of_decide_eq_true (by kernel_rfl)) (by unfold Func.isWrapper; first | (rw [if_pos (by decide +kernel)]; kernel_rfl) | (rw [if_neg (by decide +kernel)]; exact ⟨rfl, rfl⟩))
    (fun os started H enc _ => lifted os started H enc)

end Go.Proofs.Ytkndaobmglhijaa.lawValidTerms

namespace Go.Proofs.Ytkndaobmglhijaa
theorem validTermsLaw_holds : Rows.FnExactValidTermsSaid := lawValidTerms.over
end Go.Proofs.Ytkndaobmglhijaa
