/-
  The law FnExactValidLinear returns true for every input. Conditions: none.
-/
import Derived.Test.YtdjhpdmpibokhaaKindLi
import Derived.Test.YtdjhpdmpibokhaaRows
namespace Go.Proofs.Ytdjhpdmpibokhaa.lawValidLinear
open Go.ChangeShapes Go.WideShapes Go.ChangeAt Go.RowKit
set_option linter.unusedVariables false

theorem own : ownKnob Try.prog.godebug = none := by kernel_rfl
theorem laidOut : laidOutB Try.prog = true := by kernel_rfl

theorem fresh_shape {v : Value} {d : DLi} {w : World} {lo hi : Nat} (h : FreshLi w lo hi v d) : ∃ (px : Int) (X1 : Option Addr) (xn1 xc1 : Nat) (X2 : Option Addr) (xn2 xc2 : Nat), v = .agg #[.int .i64 px, .slice X1 xn1 xc1, .slice X2 xn2 xc2] := by
  obtain ⟨⟨v1, v2, rfl, h1, h2⟩, _⟩ := h
  obtain ⟨A, n, c, rfl⟩ := h1.shape
  obtain ⟨B, m, d, rfl⟩ := h2.shape
  exact ⟨_, _, _, _, _, _, _, rfl⟩

set_option maxHeartbeats 3200000 in
set_option maxRecDepth 100000 in
theorem walk (p : Int) (v1 v2 : Value) (d0 : DLi) (w : World) (h0 : ArgLi w 0 w.heap.size (.agg #[.int .i64 p, v1, v2]) d0) :
    Calls Try.prog 11 #[.agg #[.int .i64 p, v1, v2]] w fun e w' => e = .returned (.bool true) ∧ Below w.heap.size w w' := by
  have bel : Below w.heap.size w (w.alloc (.cells #[.int .i64 p, v1, v2] 61)) := (Below.refl _ _).alloc (Nat.le_refl _) _
  have k0 := heap_alloc_new w (.cells #[.int .i64 p, v1, v2] 61)
  have hz : w.heap.size < (w.alloc (.cells #[.int .i64 p, v1, v2] 61)).heap.size := by rw [World.size_alloc]; omega
  have sz0 := szLinear_u (left := 1048576) (h0.below bel (.inr (Nat.le_refl _))) (by omega) (by omega)
  by_cases big0 : (1048576 : Int) < (totLi d0 : Int)
  · rw [szLeft_big big0] at sz0
    replace sz0 := hide sz0
    clear h0
    go_enter Try.func11, Try.ntmps11
    go_wp2_with fail
    refine sz0.out.mono ?_
    rintro e w1 ⟨rfl, hb⟩
    go_wp2_with fail
    go_ret
    exact ⟨rfl, bel.trans (hb.mono bel.size)⟩
  rw [szLeft_fits big0] at sz0
  replace sz0 := hide sz0
  have ns0 : totLi d0 ≤ 1048576 := by omega
  have qt := hide (fun W (hW : Below w.heap.size w W) => toLinear_u (h0.below hW (.inr (Nat.le_refl _))) ns0)
  clear h0
  have hr : ¬ (1048576 - (totLi d0 : Int) < 0) := by omega
  go_enter Try.func11, Try.ntmps11
  go_wp2_with fail
  refine sz0.out.mono ?_
  rintro e w1 ⟨rfl, hb⟩
  replace k0 := (hb.block _ hz).trans k0
  replace hz := Nat.lt_of_lt_of_le hz hb.size
  replace bel := bel.trans (hb.mono bel.size)
  clear hb sz0
  have a0 : w1.cell? ⟨w.heap.size, 0, none⟩ = some (.int .i64 p) := (cell_of_row _ _ 0 _ _ (0, 0) k0).trans rfl
  have a1 : w1.cell? ⟨w.heap.size, 1, none⟩ = some (v1) := (cell_of_row _ _ 1 _ _ (0, 0) k0).trans rfl
  have a2 : w1.cell? ⟨w.heap.size, 2, none⟩ = some (v2) := (cell_of_row _ _ 2 _ _ (0, 0) k0).trans rfl
  go_wp2_with fail
  refine (qt.out w1 bel).mono ?_
  rintro e w2 ⟨us0, rfl, s0, hb⟩
  replace k0 := (hb.block _ hz).trans k0
  replace hz := Nat.lt_of_lt_of_le hz hb.size
  replace bel := bel.trans (hb.mono bel.size)
  clear hb a0 a1 a2
  go_wp2_with fail
  refine (specValidLinear_u (w := w2) s0).mono ?_
  rintro e w3 ⟨rfl, hb⟩
  replace k0 := (hb.block _ hz).trans k0
  replace hz := Nat.lt_of_lt_of_le hz hb.size
  replace bel := bel.trans (hb.mono bel.size)
  clear hb s0
  have a0 : w3.cell? ⟨w.heap.size, 0, none⟩ = some (.int .i64 p) := (cell_of_row _ _ 0 _ _ (0, 0) k0).trans rfl
  have a1 : w3.cell? ⟨w.heap.size, 1, none⟩ = some (v1) := (cell_of_row _ _ 1 _ _ (0, 0) k0).trans rfl
  have a2 : w3.cell? ⟨w.heap.size, 2, none⟩ = some (v2) := (cell_of_row _ _ 2 _ _ (0, 0) k0).trans rfl
  go_wp2_with fail
  refine (qt.out w3 bel).mono ?_
  rintro e w4 ⟨ux0, rfl, x0, hb⟩
  obtain ⟨px, X1, xn1, xc1, X2, xn2, xc2, rfl⟩ := fresh_shape x0
  replace k0 := (hb.block _ hz).trans k0
  replace hz := Nat.lt_of_lt_of_le hz hb.size
  replace bel := bel.trans (hb.mono bel.size)
  clear hb a0 a1 a2
  have hb4 : Below w4.heap.size w4 (w4.alloc (.cells #[.int .i64 px, .slice X1 xn1 xc1, .slice X2 xn2 xc2] 66)) := (Below.refl _ _).alloc (Nat.le_refl _) _
  have k1 := heap_alloc_new w4 (.cells #[.int .i64 px, .slice X1 xn1 xc1, .slice X2 xn2 xc2] 66)
  replace k0 := (hb4.block _ hz).trans k0
  have hy : w4.heap.size < (w4.alloc (.cells #[.int .i64 px, .slice X1 xn1 xc1, .slice X2 xn2 xc2] 66)).heap.size := by rw [World.size_alloc]; omega
  replace hz := Nat.lt_of_lt_of_le hz hb4.size
  replace bel := bel.trans (hb4.mono bel.size)
  replace x0 := hide (x0.below hb4 (.inr (Nat.le_refl _)))
  clear hb4
  go_wp2_with fail
  generalize (w4.alloc (.cells #[.int .i64 px, .slice X1 xn1 xc1, .slice X2 xn2 xc2] 66)) = w5 at *
  refine (implValidLinear_u (w := w5) x0.out).mono ?_
  rintro e w6 ⟨rfl, hb⟩
  replace k0 := (hb.block _ hz).trans k0
  replace k1 := (hb.block _ hy).trans k1
  replace hz := Nat.lt_of_lt_of_le hz hb.size
  replace hy := Nat.lt_of_lt_of_le hy hb.size
  replace bel := bel.trans (hb.mono bel.size)
  replace x0 := hide (x0.out.below hb (.inr (Nat.le_refl _)))
  clear hb
  have a0 : w6.cell? ⟨w.heap.size, 0, none⟩ = some (.int .i64 p) := (cell_of_row _ _ 0 _ _ (0, 0) k0).trans rfl
  have a1 : w6.cell? ⟨w.heap.size, 1, none⟩ = some (v1) := (cell_of_row _ _ 1 _ _ (0, 0) k0).trans rfl
  have a2 : w6.cell? ⟨w.heap.size, 2, none⟩ = some (v2) := (cell_of_row _ _ 2 _ _ (0, 0) k0).trans rfl
  have b0 : w6.cell? ⟨w4.heap.size, 0, none⟩ = some (.int .i64 px) := (cell_of_row _ _ 0 _ _ (0, 0) k1).trans rfl
  have b1 : w6.cell? ⟨w4.heap.size, 1, none⟩ = some (.slice X1 xn1 xc1) := (cell_of_row _ _ 1 _ _ (0, 0) k1).trans rfl
  have b2 : w6.cell? ⟨w4.heap.size, 2, none⟩ = some (.slice X2 xn2 xc2) := (cell_of_row _ _ 2 _ _ (0, 0) k1).trans rfl
  have beld : Below w.heap.size w w6.drew := bel.drew
  replace k0 := hide k0
  replace k1 := hide k1
  generalize w4.heap.size = bx at *
  go_wp2_with fail
  go_region_law (first
    | (go_simp; go_at_call 46; (with_reducible refine (qt.out w6.drew beld).mono ?_); rintro e w7 ⟨ut, rfl, t0, hb7⟩; have k07 := (hb7.block _ hz).trans k0.out; have k17 := (hb7.block _ hy).trans k1.out; have bel7 := beld.trans (hb7.mono beld.size); have c0 : w7.cell? ⟨w.heap.size, 0, none⟩ = some (.int .i64 p) := (cell_of_row _ _ 0 _ _ (0, 0) k07).trans rfl; have c1 : w7.cell? ⟨w.heap.size, 1, none⟩ = some v1 := (cell_of_row _ _ 1 _ _ (0, 0) k07).trans rfl; have c2 : w7.cell? ⟨w.heap.size, 2, none⟩ = some v2 := (cell_of_row _ _ 2 _ _ (0, 0) k07).trans rfl; have e0 : w7.cell? ⟨bx, 0, none⟩ = some (.int .i64 px) := (cell_of_row _ _ 0 _ _ (0, 0) k17).trans rfl; have e1 : w7.cell? ⟨bx, 1, none⟩ = some (.slice X1 xn1 xc1) := (cell_of_row _ _ 1 _ _ (0, 0) k17).trans rfl; have e2 : w7.cell? ⟨bx, 2, none⟩ = some (.slice X2 xn2 xc2) := (cell_of_row _ _ 2 _ _ (0, 0) k17).trans rfl; have qeq := eqLinear_u (x0.out.below ((Below.refl w6.heap.size w6).drew.trans hb7) (.inr (Nat.le_refl _))) t0; rw [decide_eq_true rfl] at qeq; replace qeq := hide qeq; clear k07 k17)
    | (go_simp; go_at_call 48; (with_reducible refine qeq.out.mono ?_); rintro e w8 ⟨rfl, hb8⟩))
  all_goals go_wp2_with fail
  all_goals go_ret
  all_goals exact ⟨rfl, bel7.trans (hb8.mono bel7.size)⟩

set_option maxRecDepth 100000 in
theorem lifted (os : Os) (started : os.Started) (H : Type) (enc : TypeId × Value → H) :
    ReturnsInHanded {} Try.checked os 11 .any (Rows.fnExactValidLinearSpec.pre6 enc Try.prog Try.f11 Rows.fnExactValidLinearRow.domain false) (Rows.fnExactValidLinearSpec.post enc Try.prog Try.f11 false true false false) := by
  refine returnsInHanded_of_change (C := Try.checked) own started (by kernel_rfl) Try.func11
    (ChangeSpec.witness6 (enc := enc) (C := Try.checked) false ⟨#[], #[.agg #[.int .i64 0, .slice none 0 0, .slice none 0 0]], []⟩ 8 (by kernel_rfl) (by kernel_rfl) (by kernel_rfl) (by kernel_rfl)) ?_
  intro W base args ds gs before hval0 hW hcnd _
  have hval : ∀ (j : Nat) t v, Try.f11.params[j]? = some t → args[j]? = some v → Value.okWide Try.prog W .any base t v := hval0
  have hW' := hW
  obtain ⟨p, q, hA0, hV, rfl, hfz, hnd⟩ := hW
  have hA : DataW.TrodAll enc Try.prog W 0 (fun _ => true) true Try.f11.params.toList args.toList ds p := hA0
  rw [Try.params11] at hA hval
  obtain ⟨v0, vs0, d0, ds0, p0, q0, hargs, rfl, rfl, h0, r0⟩ := trodAll_cons hA
  obtain ⟨rfl, rfl, rfl⟩ := trodAll_nil r0
  obtain rfl : args = #[v0] := by cases args; simp_all
  obtain ⟨rfl, rfl⟩ := trodVars_none hV
  have lt0 : ∀ x ∈ p0, x.block < W.heap.size := by obtain ⟨m, hm⟩ := h0; exact DataW.trod_lt m _ _ _ hm
  obtain ⟨x0, a0⟩ := open_Li (hval 0 61 v0 rfl rfl) h0 (fun b off hp => hfz b off (by simp [hp]))
  clear hA0 hval0
  obtain ⟨y1, y2, rfl, ay1, ay2⟩ := a0
  refine (walk _ y1 y2 x0 W ⟨y1, y2, rfl, ay1, ay2⟩).mono fun e W' ⟨he, bel⟩ => ?_
  subst he
  exact ⟨_, rfl, _, _, _, [], _, [], hW', trodAll_mk1 (shut_bool Try.underlying4 _), (trodAll_cons_mk (Below.trod laidOut (by kernel_rfl) (of_decide_eq_true (by kernel_rfl)) h0 bel lt0) trodAll_mk0), rfl, bel.frame _, fun h => by cases h⟩

theorem over : Rows.fnExactValidLinearRow.holds Try.pinned (OpenSpec.ofChange Rows.fnExactValidLinearSpec) :=
  OpenClaim.holds_of_wide 11 Try.f11 rfl rfl rfl rfl rfl rfl rfl ⟨rfl, rfl, rfl, rfl, rfl⟩ rfl rfl rfl rfl rfl (by kernel_rfl) Try.func11 (by kernel_rfl)
    (of_decide_eq_true (by kernel_rfl)) (by unfold Func.isWrapper; first | (rw [if_pos (by decide +kernel)]; kernel_rfl) | (rw [if_neg (by decide +kernel)]; exact ⟨rfl, rfl⟩))
    (fun os started H enc _ => lifted os started H enc)

end Go.Proofs.Ytdjhpdmpibokhaa.lawValidLinear

namespace Go.Proofs.Ytdjhpdmpibokhaa
theorem fnExactValidLinear_holds : Rows.FnExactValidLinearSaid := lawValidLinear.over
end Go.Proofs.Ytdjhpdmpibokhaa
