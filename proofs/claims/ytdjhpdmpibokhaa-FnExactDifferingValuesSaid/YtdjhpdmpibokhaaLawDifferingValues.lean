/-
  The law FnExactDifferingValues returns true for every input. Conditions: none.
-/
import Derived.Test.YtdjhpdmpibokhaaDiffer3
import Derived.Test.YtdjhpdmpibokhaaBoilT
import Derived.Test.YtdjhpdmpibokhaaBoilM
import Derived.Test.YtdjhpdmpibokhaaBoilI
import Derived.Test.YtdjhpdmpibokhaaOpen
namespace Go.Proofs.Ytdjhpdmpibokhaa.lawDifferingValues
open Go.ChangeShapes Go.WideShapes Go.ChangeAt Go.RowKit
set_option linter.unusedVariables false

theorem own : ownKnob Try.prog.godebug = none := by kernel_rfl
theorem laidOut : laidOutB Try.prog = true := by kernel_rfl

theorem walk (A0 : Option Addr) (n0 c0 : Nat) (l0 : List (Int × Int)) (A1 : Option Addr) (n1 c1 : Nat) (l1 : List (Int × Int)) (A2 : Option Addr) (n2 c2 : Nat) (l2 : List Int) (w : World) (h0 : SlT w 0 w.heap.size A0 n0 l0) (hm0 : n0 ≤ maxLen) (h1 : SlT w 0 w.heap.size A1 n1 l1) (hm1 : n1 ≤ maxLen) (h2 : SlI w 0 w.heap.size A2 n2 l2) (hm2 : n2 ≤ maxLen) :
    Calls Try.prog 9 #[.slice A0 n0 c0, .slice A1 n1 c1, .slice A2 n2 c2] w fun e w' => e = .returned (.bool true) ∧ Below w.heap.size w w' := by
  have mm0 := hide hm0
  have mm1 := hide hm1
  have mm2 := hide hm2
  have mx0 : n0 ≤ 9223372036854775807 := by have := hm0; unfold maxLen at this; omega
  have mx1 : n1 ≤ 9223372036854775807 := by have := hm1; unfold maxLen at this; omega
  have mx2 : n2 ≤ 9223372036854775807 := by have := hm2; unfold maxLen at this; omega
  clear hm0 hm1 hm2
  by_cases big2 : (1048576 : Int) < n2
  · clear h0 h1 h2
    go_enter Try.func9, Try.ntmps9
    go_wp2_with fail
    go_ret
    exact ⟨rfl, Below.refl _ _⟩
  have ns2 : n2 ≤ 1048576 := by omega
  have sz0 := szTermS_calls A0 n0 c0 (1048576) w mm0.out (by omega) (by omega)
  by_cases big0 : 1048576 < (n0 : Int)
  · rw [if_pos big0] at sz0
    replace sz0 := hide sz0
    clear h0 h1 h2
    go_enter Try.func9, Try.ntmps9
    go_wp2_with (first | (go_at_call 12; (with_reducible refine sz0.out.mono ?_); rintro e w' ⟨rfl, rfl⟩))
    go_ret
    exact ⟨rfl, Below.refl _ _⟩
  rw [if_neg big0] at sz0
  replace sz0 := hide sz0
  have ns0 : n0 ≤ 1048576 := by omega
  have sz1 := szTermS_calls A1 n1 c1 (1048576 - (n0 : Int)) w mm1.out (by omega) (by omega)
  by_cases big1 : 1048576 - (n0 : Int) < (n1 : Int)
  · rw [if_pos big1] at sz1
    replace sz1 := hide sz1
    clear h0 h1 h2
    go_enter Try.func9, Try.ntmps9
    go_wp2_with (first | (go_at_call 12; (with_reducible refine sz0.out.mono ?_); rintro e w' ⟨rfl, rfl⟩) | (go_at_call 12; (with_reducible refine sz1.out.mono ?_); rintro e w' ⟨rfl, rfl⟩))
    go_ret
    exact ⟨rfl, Below.refl _ _⟩
  rw [if_neg big1] at sz1
  replace sz1 := hide sz1
  have ns1 : n1 ≤ 1048576 := by omega
  have bel := Below.refl w.heap.size w
  go_enter Try.func9, Try.ntmps9
  go_wp2_with (first | (go_at_call 12; (with_reducible refine sz0.out.mono ?_); rintro e w' ⟨rfl, rfl⟩) | (go_at_call 12; (with_reducible refine sz1.out.mono ?_); rintro e w' ⟨rfl, rfl⟩))
  clear sz0
  clear sz1
  refine (toTermS_calls A0 n0 c0 l0 w _ _ h0 ns0).mono ?_
  rintro e w1 ⟨Bs0, rfl, hb, s0⟩
  replace h0 := h0.below hb (.inr (Nat.le_refl _))
  replace h1 := h1.below hb (.inr (Nat.le_refl _))
  replace h2 := h2.below hb (.inr (Nat.le_refl _))
  replace bel := bel.trans (hb.mono bel.size)
  have zw1 := hb.size
  clear hb
  go_wp2_with fail
  refine (toTermS_calls A1 n1 c1 l1 w1 _ _ h1 ns1).mono ?_
  rintro e w2 ⟨Bs1, rfl, hb, s1⟩
  replace h0 := h0.below hb (.inr (Nat.le_refl _))
  replace h1 := h1.below hb (.inr (Nat.le_refl _))
  replace h2 := h2.below hb (.inr (Nat.le_refl _))
  replace s0 := s0.below hb (.inr (Nat.le_refl _))
  replace bel := bel.trans (hb.mono bel.size)
  have zw2 := hb.size
  clear hb
  go_wp2_with fail
  refine (toInt64S_calls A2 n2 c2 l2 w2 _ _ h2 ns2).mono ?_
  rintro e w3 ⟨Bs2, rfl, hb, s2⟩
  replace h0 := h0.below hb (.inr (Nat.le_refl _))
  replace h1 := h1.below hb (.inr (Nat.le_refl _))
  replace h2 := h2.below hb (.inr (Nat.le_refl _))
  replace s0 := s0.below hb (.inr (Nat.le_refl _))
  replace s1 := s1.below hb (.inr (Nat.le_refl _))
  replace bel := bel.trans (hb.mono bel.size)
  have zw3 := hb.size
  clear hb
  go_wp2_with fail
  refine (specDifferingValues_std w3 _ _ _ _ _ s0 ns0 _ _ _ _ _ s1 ns1 _ _ _ _ _ s2 ns2).mono ?_
  rintro e w4 ⟨Cw0, qw0, dw0, rfl, yw0, rw0, hb⟩
  replace h0 := h0.below hb (.inr (Nat.le_refl _))
  replace h1 := h1.below hb (.inr (Nat.le_refl _))
  replace h2 := h2.below hb (.inr (Nat.le_refl _))
  replace s0 := s0.below hb (.inr (Nat.le_refl _))
  replace s1 := s1.below hb (.inr (Nat.le_refl _))
  replace s2 := s2.below hb (.inr (Nat.le_refl _))
  replace bel := bel.trans (hb.mono bel.size)
  have zw4 := hb.size
  clear hb
  go_wp2_with fail
  refine (toTermS_calls A0 n0 c0 l0 w4 _ _ h0 ns0).mono ?_
  rintro e w5 ⟨Bx0, rfl, hb, x0⟩
  replace h0 := h0.below hb (.inr (Nat.le_refl _))
  replace h1 := h1.below hb (.inr (Nat.le_refl _))
  replace h2 := h2.below hb (.inr (Nat.le_refl _))
  replace rw0 := rw0.below hb (.inr (Nat.le_refl _))
  replace bel := bel.trans (hb.mono bel.size)
  have zw5 := hb.size
  clear hb
  go_wp2_with fail
  refine (toTermS_calls A1 n1 c1 l1 w5 _ _ h1 ns1).mono ?_
  rintro e w6 ⟨Bx1, rfl, hb, x1⟩
  replace h0 := h0.below hb (.inr (Nat.le_refl _))
  replace h1 := h1.below hb (.inr (Nat.le_refl _))
  replace h2 := h2.below hb (.inr (Nat.le_refl _))
  replace rw0 := rw0.below hb (.inr (Nat.le_refl _))
  replace x0 := x0.below hb (.inr (Nat.le_refl _))
  replace bel := bel.trans (hb.mono bel.size)
  have zw6 := hb.size
  clear hb
  go_wp2_with fail
  refine (toInt64S_calls A2 n2 c2 l2 w6 _ _ h2 ns2).mono ?_
  rintro e w7 ⟨Bx2, rfl, hb, x2⟩
  replace h0 := h0.below hb (.inr (Nat.le_refl _))
  replace h1 := h1.below hb (.inr (Nat.le_refl _))
  replace h2 := h2.below hb (.inr (Nat.le_refl _))
  replace rw0 := rw0.below hb (.inr (Nat.le_refl _))
  replace x0 := x0.below hb (.inr (Nat.le_refl _))
  replace x1 := x1.below hb (.inr (Nat.le_refl _))
  replace bel := bel.trans (hb.mono bel.size)
  have zw7 := hb.size
  clear hb
  go_wp2_with fail
  refine (implDifferingValues_std w7 _ _ _ _ _ x0 ns0 _ _ _ _ _ x1 ns1 _ _ _ _ _ x2 ns2).mono ?_
  rintro e w8 ⟨Cg0, qg0, dg0, rfl, yg0, rg0, hb⟩
  replace h0 := h0.below hb (.inr (Nat.le_refl _))
  replace h1 := h1.below hb (.inr (Nat.le_refl _))
  replace h2 := h2.below hb (.inr (Nat.le_refl _))
  replace rw0 := rw0.below hb (.inr (Nat.le_refl _))
  replace x0 := x0.below hb (.inr (Nat.le_refl _))
  replace x1 := x1.below hb (.inr (Nat.le_refl _))
  replace x2 := x2.below hb (.inr (Nat.le_refl _))
  replace bel := bel.trans (hb.mono bel.size)
  have zw8 := hb.size
  clear hb
  go_wp2_with fail
  refine (eqInt64S_calls _ _ _ _ _ _ _ _ _ _ _ _ _ rg0 rw0 (by unfold maxLen; omega) (by unfold maxLen; omega)).mono ?_
  rintro e w9 ⟨rfl, hb⟩
  replace h0 := h0.below hb (.inr (Nat.le_refl _))
  replace h1 := h1.below hb (.inr (Nat.le_refl _))
  replace h2 := h2.below hb (.inr (Nat.le_refl _))
  replace rw0 := rw0.below hb (.inr (Nat.le_refl _))
  replace x0 := x0.below hb (.inr (Nat.le_refl _))
  replace x1 := x1.below hb (.inr (Nat.le_refl _))
  replace x2 := x2.below hb (.inr (Nat.le_refl _))
  replace rg0 := rg0.below hb (.inr (Nat.le_refl _))
  replace bel := bel.trans (hb.mono bel.size)
  have zw9 := hb.size
  clear hb
  go_wp2_with fail
  refine (toTermS_calls A0 n0 c0 l0 w9 _ _ h0 ns0).mono ?_
  rintro e w10 ⟨Bt0, rfl, hb, t0⟩
  replace h0 := h0.below hb (.inr (Nat.le_refl _))
  replace h1 := h1.below hb (.inr (Nat.le_refl _))
  replace h2 := h2.below hb (.inr (Nat.le_refl _))
  replace rw0 := rw0.below hb (.inr (Nat.le_refl _))
  replace x0 := x0.below hb (.inr (Nat.le_refl _))
  replace x1 := x1.below hb (.inr (Nat.le_refl _))
  replace x2 := x2.below hb (.inr (Nat.le_refl _))
  replace rg0 := rg0.below hb (.inr (Nat.le_refl _))
  replace bel := bel.trans (hb.mono bel.size)
  have zw10 := hb.size
  clear hb
  go_wp2_with fail
  refine (eqTermS_calls _ _ _ _ _ _ _ _ _ _ _ _ _ x0 t0 mm0.out mm0.out).mono ?_
  rintro e w11 ⟨rfl, hb⟩
  replace h0 := h0.below hb (.inr (Nat.le_refl _))
  replace h1 := h1.below hb (.inr (Nat.le_refl _))
  replace h2 := h2.below hb (.inr (Nat.le_refl _))
  replace rw0 := rw0.below hb (.inr (Nat.le_refl _))
  replace x0 := x0.below hb (.inr (Nat.le_refl _))
  replace x1 := x1.below hb (.inr (Nat.le_refl _))
  replace x2 := x2.below hb (.inr (Nat.le_refl _))
  replace rg0 := rg0.below hb (.inr (Nat.le_refl _))
  replace t0 := t0.below hb (.inr (Nat.le_refl _))
  replace bel := bel.trans (hb.mono bel.size)
  have zw11 := hb.size
  clear hb
  go_wp2_with fail
  refine (toTermS_calls A1 n1 c1 l1 w11 _ _ h1 ns1).mono ?_
  rintro e w12 ⟨Bt1, rfl, hb, t1⟩
  replace h0 := h0.below hb (.inr (Nat.le_refl _))
  replace h1 := h1.below hb (.inr (Nat.le_refl _))
  replace h2 := h2.below hb (.inr (Nat.le_refl _))
  replace rw0 := rw0.below hb (.inr (Nat.le_refl _))
  replace x0 := x0.below hb (.inr (Nat.le_refl _))
  replace x1 := x1.below hb (.inr (Nat.le_refl _))
  replace x2 := x2.below hb (.inr (Nat.le_refl _))
  replace rg0 := rg0.below hb (.inr (Nat.le_refl _))
  replace bel := bel.trans (hb.mono bel.size)
  have zw12 := hb.size
  clear hb
  go_wp2_with fail
  refine (eqTermS_calls _ _ _ _ _ _ _ _ _ _ _ _ _ x1 t1 mm1.out mm1.out).mono ?_
  rintro e w13 ⟨rfl, hb⟩
  replace h0 := h0.below hb (.inr (Nat.le_refl _))
  replace h1 := h1.below hb (.inr (Nat.le_refl _))
  replace h2 := h2.below hb (.inr (Nat.le_refl _))
  replace rw0 := rw0.below hb (.inr (Nat.le_refl _))
  replace x0 := x0.below hb (.inr (Nat.le_refl _))
  replace x1 := x1.below hb (.inr (Nat.le_refl _))
  replace x2 := x2.below hb (.inr (Nat.le_refl _))
  replace rg0 := rg0.below hb (.inr (Nat.le_refl _))
  replace t1 := t1.below hb (.inr (Nat.le_refl _))
  replace bel := bel.trans (hb.mono bel.size)
  have zw13 := hb.size
  clear hb
  go_wp2_with fail
  refine (toInt64S_calls A2 n2 c2 l2 w13 _ _ h2 ns2).mono ?_
  rintro e w14 ⟨Bt2, rfl, hb, t2⟩
  replace h0 := h0.below hb (.inr (Nat.le_refl _))
  replace h1 := h1.below hb (.inr (Nat.le_refl _))
  replace h2 := h2.below hb (.inr (Nat.le_refl _))
  replace rw0 := rw0.below hb (.inr (Nat.le_refl _))
  replace x0 := x0.below hb (.inr (Nat.le_refl _))
  replace x1 := x1.below hb (.inr (Nat.le_refl _))
  replace x2 := x2.below hb (.inr (Nat.le_refl _))
  replace rg0 := rg0.below hb (.inr (Nat.le_refl _))
  replace bel := bel.trans (hb.mono bel.size)
  have zw14 := hb.size
  clear hb
  go_wp2_with fail
  refine (eqInt64S_calls _ _ _ _ _ _ _ _ _ _ _ _ _ x2 t2 mm2.out mm2.out).mono ?_
  rintro e w15 ⟨rfl, hb⟩
  replace h0 := h0.below hb (.inr (Nat.le_refl _))
  replace h1 := h1.below hb (.inr (Nat.le_refl _))
  replace h2 := h2.below hb (.inr (Nat.le_refl _))
  replace rw0 := rw0.below hb (.inr (Nat.le_refl _))
  replace x0 := x0.below hb (.inr (Nat.le_refl _))
  replace x1 := x1.below hb (.inr (Nat.le_refl _))
  replace x2 := x2.below hb (.inr (Nat.le_refl _))
  replace rg0 := rg0.below hb (.inr (Nat.le_refl _))
  replace t2 := t2.below hb (.inr (Nat.le_refl _))
  replace bel := bel.trans (hb.mono bel.size)
  have zw15 := hb.size
  clear hb
  go_wp2_with fail
  refine (markTermS_calls _ _ _ _ (1) w15 _ _ x0 ns0 (by omega) (by omega)).mono ?_
  rintro e w16 ⟨rfl, x0m, ho⟩
  have zw16 := ho.size
  replace h0 := h0.only ho (by omega)
  replace h1 := h1.only ho (by omega)
  replace h2 := h2.only ho (by omega)
  replace rw0 := rw0.only ho (by omega)
  replace x1 := x1.only ho (by omega)
  replace x2 := x2.only ho (by omega)
  replace rg0 := rg0.only ho (by omega)
  replace bel := Only.below bel ho (by omega) bel.size
  clear ho
  go_wp2_with fail
  refine (markTermS_calls _ _ _ _ (1 + 2 * (n0 : Int)) w16 _ _ x1 ns1 (by omega) (by omega)).mono ?_
  rintro e w17 ⟨rfl, x1m, ho⟩
  have zw17 := ho.size
  replace h0 := h0.only ho (by omega)
  replace h1 := h1.only ho (by omega)
  replace h2 := h2.only ho (by omega)
  replace rw0 := rw0.only ho (by omega)
  replace x2 := x2.only ho (by omega)
  replace rg0 := rg0.only ho (by omega)
  replace x0m := x0m.only ho (by omega)
  replace bel := Only.below bel ho (by omega) bel.size
  clear ho
  go_wp2_with fail
  refine (markInt64S_calls _ _ _ _ (1 + 2 * (n0 : Int) + 2 * (n1 : Int)) w17 _ _ x2 ns2 (by omega) (by omega)).mono ?_
  rintro e w18 ⟨rfl, x2m, ho⟩
  have zw18 := ho.size
  replace h0 := h0.only ho (by omega)
  replace h1 := h1.only ho (by omega)
  replace h2 := h2.only ho (by omega)
  replace rw0 := rw0.only ho (by omega)
  replace rg0 := rg0.only ho (by omega)
  replace x0m := x0m.only ho (by omega)
  replace x1m := x1m.only ho (by omega)
  replace bel := Only.below bel ho (by omega) bel.size
  clear ho
  go_wp2_with fail
  refine (eqInt64S_calls _ _ _ _ _ _ _ _ _ _ _ _ _ rg0 rw0 (by unfold maxLen; omega) (by unfold maxLen; omega)).mono ?_
  rintro e w19 ⟨rfl, hb⟩
  replace h0 := h0.below hb (.inr (Nat.le_refl _))
  replace h1 := h1.below hb (.inr (Nat.le_refl _))
  replace h2 := h2.below hb (.inr (Nat.le_refl _))
  replace rw0 := rw0.below hb (.inr (Nat.le_refl _))
  replace rg0 := rg0.below hb (.inr (Nat.le_refl _))
  replace x0m := x0m.below hb (.inr (Nat.le_refl _))
  replace x1m := x1m.below hb (.inr (Nat.le_refl _))
  replace x2m := x2m.below hb (.inr (Nat.le_refl _))
  replace bel := bel.trans (hb.mono bel.size)
  have zw19 := hb.size
  clear hb
  go_wp2_with fail
  refine (markInt64S_calls _ _ _ _ (1) w19 _ _ rg0 yg0 (by omega) (by omega)).mono ?_
  rintro e w20 ⟨rfl, rg0m, ho⟩
  have zw20 := ho.size
  replace h0 := h0.only ho (by omega)
  replace h1 := h1.only ho (by omega)
  replace h2 := h2.only ho (by omega)
  replace rw0 := rw0.only ho (by omega)
  replace x0m := x0m.only ho (by omega)
  replace x1m := x1m.only ho (by omega)
  replace x2m := x2m.only ho (by omega)
  replace bel := Only.below bel ho (by omega) bel.size
  clear ho
  go_wp2_with fail
  refine (heldInt64S_calls _ _ _ _ (1) w20 _ _ rg0m yg0 (by omega) (by omega) (fun i hi => markI_get _ _ _ i hi (by have := rg0m.len; rw [markI_len] at this; rw [this]; exact hi))).mono ?_
  rintro e w' ⟨rfl, rfl⟩
  go_wp2_with fail
  refine (toTermS_calls A0 n0 c0 l0 w20 _ _ h0 ns0).mono ?_
  rintro e w21 ⟨Bu0, rfl, hb, u0⟩
  replace h0 := h0.below hb (.inr (Nat.le_refl _))
  replace h1 := h1.below hb (.inr (Nat.le_refl _))
  replace h2 := h2.below hb (.inr (Nat.le_refl _))
  replace rw0 := rw0.below hb (.inr (Nat.le_refl _))
  replace x0m := x0m.below hb (.inr (Nat.le_refl _))
  replace x1m := x1m.below hb (.inr (Nat.le_refl _))
  replace x2m := x2m.below hb (.inr (Nat.le_refl _))
  replace rg0m := rg0m.below hb (.inr (Nat.le_refl _))
  replace bel := bel.trans (hb.mono bel.size)
  have zw21 := hb.size
  clear hb
  go_wp2_with fail
  refine (toTermS_calls A1 n1 c1 l1 w21 _ _ h1 ns1).mono ?_
  rintro e w22 ⟨Bu1, rfl, hb, u1⟩
  replace h0 := h0.below hb (.inr (Nat.le_refl _))
  replace h1 := h1.below hb (.inr (Nat.le_refl _))
  replace h2 := h2.below hb (.inr (Nat.le_refl _))
  replace rw0 := rw0.below hb (.inr (Nat.le_refl _))
  replace x0m := x0m.below hb (.inr (Nat.le_refl _))
  replace x1m := x1m.below hb (.inr (Nat.le_refl _))
  replace x2m := x2m.below hb (.inr (Nat.le_refl _))
  replace rg0m := rg0m.below hb (.inr (Nat.le_refl _))
  replace u0 := u0.below hb (.inr (Nat.le_refl _))
  replace bel := bel.trans (hb.mono bel.size)
  have zw22 := hb.size
  clear hb
  go_wp2_with fail
  refine (toInt64S_calls A2 n2 c2 l2 w22 _ _ h2 ns2).mono ?_
  rintro e w23 ⟨Bu2, rfl, hb, u2⟩
  replace h0 := h0.below hb (.inr (Nat.le_refl _))
  replace h1 := h1.below hb (.inr (Nat.le_refl _))
  replace h2 := h2.below hb (.inr (Nat.le_refl _))
  replace rw0 := rw0.below hb (.inr (Nat.le_refl _))
  replace x0m := x0m.below hb (.inr (Nat.le_refl _))
  replace x1m := x1m.below hb (.inr (Nat.le_refl _))
  replace x2m := x2m.below hb (.inr (Nat.le_refl _))
  replace rg0m := rg0m.below hb (.inr (Nat.le_refl _))
  replace u0 := u0.below hb (.inr (Nat.le_refl _))
  replace u1 := u1.below hb (.inr (Nat.le_refl _))
  replace bel := bel.trans (hb.mono bel.size)
  have zw23 := hb.size
  clear hb
  go_wp2_with fail
  refine (implDifferingValues_std w23 _ _ _ _ _ u0 ns0 _ _ _ _ _ u1 ns1 _ _ _ _ _ u2 ns2).mono ?_
  rintro e w24 ⟨Ch0, qh0, dh0, rfl, yh0, rh0, hb⟩
  replace h0 := h0.below hb (.inr (Nat.le_refl _))
  replace h1 := h1.below hb (.inr (Nat.le_refl _))
  replace h2 := h2.below hb (.inr (Nat.le_refl _))
  replace rw0 := rw0.below hb (.inr (Nat.le_refl _))
  replace x0m := x0m.below hb (.inr (Nat.le_refl _))
  replace x1m := x1m.below hb (.inr (Nat.le_refl _))
  replace x2m := x2m.below hb (.inr (Nat.le_refl _))
  replace rg0m := rg0m.below hb (.inr (Nat.le_refl _))
  replace u0 := u0.below hb (.inr (Nat.le_refl _))
  replace u1 := u1.below hb (.inr (Nat.le_refl _))
  replace u2 := u2.below hb (.inr (Nat.le_refl _))
  replace bel := bel.trans (hb.mono bel.size)
  have zw24 := hb.size
  clear hb
  go_wp2_with fail
  refine (eqInt64S_calls _ _ _ _ _ _ _ _ _ _ _ _ _ rh0 rw0 (by unfold maxLen; omega) (by unfold maxLen; omega)).mono ?_
  rintro e w25 ⟨rfl, hb⟩
  replace h0 := h0.below hb (.inr (Nat.le_refl _))
  replace h1 := h1.below hb (.inr (Nat.le_refl _))
  replace h2 := h2.below hb (.inr (Nat.le_refl _))
  replace rw0 := rw0.below hb (.inr (Nat.le_refl _))
  replace x0m := x0m.below hb (.inr (Nat.le_refl _))
  replace x1m := x1m.below hb (.inr (Nat.le_refl _))
  replace x2m := x2m.below hb (.inr (Nat.le_refl _))
  replace rg0m := rg0m.below hb (.inr (Nat.le_refl _))
  replace u0 := u0.below hb (.inr (Nat.le_refl _))
  replace u1 := u1.below hb (.inr (Nat.le_refl _))
  replace u2 := u2.below hb (.inr (Nat.le_refl _))
  replace rh0 := rh0.below hb (.inr (Nat.le_refl _))
  replace bel := bel.trans (hb.mono bel.size)
  have zw25 := hb.size
  clear hb
  go_wp2_with fail
  refine (heldInt64S_calls _ _ _ _ (1) w25 _ _ rg0m yg0 (by omega) (by omega) (fun i hi => markI_get _ _ _ i hi (by have := rg0m.len; rw [markI_len] at this; rw [this]; exact hi))).mono ?_
  rintro e w' ⟨rfl, rfl⟩
  go_wp2_with fail
  go_ret
  exact ⟨rfl, bel⟩

set_option maxRecDepth 100000 in
theorem lifted (os : Os) (started : os.Started) (H : Type) (enc : TypeId × Value → H) :
    ReturnsInHanded {} Try.checked os 9 .any (Rows.fnExactDifferingValuesSpec.pre6 enc Try.prog Try.f9 Rows.fnExactDifferingValuesRow.domain false) (Rows.fnExactDifferingValuesSpec.post enc Try.prog Try.f9 false true false false) := by
  refine returnsInHanded_of_change (C := Try.checked) own started (by kernel_rfl) Try.func9
    (ChangeSpec.witness6 (enc := enc) (C := Try.checked) false ⟨#[], #[.slice none 0 0, .slice none 0 0, .slice none 0 0], []⟩ 8 (by kernel_rfl) (by kernel_rfl) (by kernel_rfl) (by kernel_rfl)) ?_
  intro W base args ds gs before hval0 hW hcnd _
  have hval : ∀ (j : Nat) t v, Try.f9.params[j]? = some t → args[j]? = some v → Value.okWide Try.prog W .any base t v := hval0
  have hW' := hW
  obtain ⟨p, q, hA0, hV, rfl, hfz, hnd⟩ := hW
  have hA : DataW.TrodAll enc Try.prog W 0 (fun _ => true) true Try.f9.params.toList args.toList ds p := hA0
  rw [Try.params9] at hA hval
  obtain ⟨v0, vs0, d0, ds0, p0, q0, hargs, rfl, rfl, h0, r0⟩ := trodAll_cons hA
  obtain ⟨v1, vs1, d1, ds1, p1, q1, rfl, rfl, rfl, h1, r1⟩ := trodAll_cons r0
  obtain ⟨v2, vs2, d2, ds2, p2, q2, rfl, rfl, rfl, h2, r2⟩ := trodAll_cons r1
  obtain ⟨rfl, rfl, rfl⟩ := trodAll_nil r2
  obtain rfl : args = #[v0, v1, v2] := by cases args; simp_all
  obtain ⟨rfl, rfl⟩ := trodVars_none hV
  have lt0 : ∀ x ∈ p0, x.block < W.heap.size := by obtain ⟨m, hm⟩ := h0; exact DataW.trod_lt m _ _ _ hm
  have k0 := h0
  obtain ⟨A', n', c', e0⟩ := okWide_slice Try.underlying22 (hval 0 22 v0 rfl rfl)
  obtain ⟨A0, n0, c0, l0, rfl, hn0, hl0⟩ := open_SlT Try.underlying22 Try.underlying74 (by kernel_rfl) (by kernel_rfl) rfl rfl Try.underlying2 h0 e0 (fun b off hp => hfz b off (by simp [hp]))
  have lt1 : ∀ x ∈ p1, x.block < W.heap.size := by obtain ⟨m, hm⟩ := h1; exact DataW.trod_lt m _ _ _ hm
  have k1 := h1
  obtain ⟨A', n', c', e1⟩ := okWide_slice Try.underlying22 (hval 1 22 v1 rfl rfl)
  obtain ⟨A1, n1, c1, l1, rfl, hn1, hl1⟩ := open_SlT Try.underlying22 Try.underlying74 (by kernel_rfl) (by kernel_rfl) rfl rfl Try.underlying2 h1 e1 (fun b off hp => hfz b off (by simp [hp]))
  have lt2 : ∀ x ∈ p2, x.block < W.heap.size := by obtain ⟨m, hm⟩ := h2; exact DataW.trod_lt m _ _ _ hm
  have k2 := h2
  obtain ⟨A', n', c', e2⟩ := okWide_slice Try.underlying44 (hval 2 44 v2 rfl rfl)
  obtain ⟨A2, n2, c2, l2, rfl, hn2, hl2⟩ := open_SlI Try.underlying44 (by kernel_rfl) Try.underlying2 h2 e2 (fun b off hp => hfz b off (by simp [hp]))
  clear hA0 hval0
  refine (walk A0 n0 c0 l0 A1 n1 c1 l1 A2 n2 c2 l2 W hl0 hn0 hl1 hn1 hl2 hn2).mono fun e W' ⟨he, bel⟩ => ?_
  subst he
  exact ⟨_, rfl, _, _, _, [], _, [], hW', trodAll_mk1 (shut_bool Try.underlying4 _), (trodAll_cons_mk (Below.trod laidOut (by kernel_rfl) (of_decide_eq_true (by kernel_rfl)) k0 bel lt0) (trodAll_cons_mk (Below.trod laidOut (by kernel_rfl) (of_decide_eq_true (by kernel_rfl)) k1 bel lt1) (trodAll_cons_mk (Below.trod laidOut (by kernel_rfl) (of_decide_eq_true (by kernel_rfl)) k2 bel lt2) trodAll_mk0))), rfl, bel.frame _, fun h => by cases h⟩

theorem over : Rows.fnExactDifferingValuesRow.holds Try.pinned (OpenSpec.ofChange Rows.fnExactDifferingValuesSpec) :=
  OpenClaim.holds_of_wide 9 Try.f9 rfl rfl rfl rfl rfl rfl rfl ⟨rfl, rfl, rfl, rfl, rfl⟩ rfl rfl rfl rfl rfl (by kernel_rfl) Try.func9 (by kernel_rfl)
    (of_decide_eq_true (by kernel_rfl)) (by unfold Func.isWrapper; first | (rw [if_pos (by decide +kernel)]; kernel_rfl) | (rw [if_neg (by decide +kernel)]; exact ⟨rfl, rfl⟩))
    (fun os started H enc _ => lifted os started H enc)

end Go.Proofs.Ytdjhpdmpibokhaa.lawDifferingValues

namespace Go.Proofs.Ytdjhpdmpibokhaa
theorem fnExactDifferingValues_holds : Rows.FnExactDifferingValuesSaid := lawDifferingValues.over
end Go.Proofs.Ytdjhpdmpibokhaa
