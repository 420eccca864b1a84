/-
  The program's test of an equation system, whole. Conditions: at most 1048576 equations.
-/
import Derived.Test.YtbnneahjjcamlaaEqI
namespace Go.Proofs.Ytbnneahjjcamlaa
open Go.ChangeShapes Go.WideShapes Go.ChangeAt Go.RowKit
set_option linter.unusedVariables false

theorem blocksFit_calls (A : Option Addr) (n c : Nat) (e : DE) (w : World) (h : EqsAt w A n e) (hn : 0 < n ∧ n ≤ 1048576) :
    Calls Try.prog 109 #[.slice A n c] w (Says (decide (blockNo e (n - 1) < 9)) w) := by
  have q := hide (equationBlocks_calls A n c e w h hn)
  have hx := blocksF_at e (show n - 1 < n by omega)
  have hle := blockNo_le e (n - 1)
  have hv : Hid (decide (blockNo e (n - 1) < 9) = decide ((blockNo e (n - 1) : Int) < 9)) := by show _ = _; congr 1; simp; omega
  replace hn := hide hn
  replace hx := hide hx
  clear h
  generalize blockNo e (n - 1) = p at *
  go_enter Try.func109, Try.ntmps109
  go_wp2_with fail
  refine q.out.mono ?_
  rintro r w1 ⟨A1, c1, rfl, hs, hb⟩
  have q2 := hide (last_calls A1 n c1 _ _ w1 _ _ hs hn.out hx.out)
  clear hs
  go_wp2_with fail
  refine q2.out.mono ?_
  rintro r w2 ⟨rfl, rfl⟩
  go_wp2_with fail
  go_ret
  exact ⟨ret_b (by rw [hv.out]), hb⟩

set_option maxRecDepth 100000 in
theorem validEquations1_calls (x y : Bool) (Ah : Option Addr) (nh ch : Nat) (s : List Int) (bg : Nat) (Ag : Option Addr) (m cg : Nat) (W : World) (lo hi : Nat) (h : SlI W lo hi Ah nh s) (hn : nh ≤ 1048576) (hm : m ≤ 1048576)
    (hc : W.cell? ⟨bg, 0, none⟩ = some (.slice Ag m cg)) (hbg : bg < W.heap.size) :
    Calls Try.prog 111 #[.agg #[.bool x, .bool y, .slice Ah nh ch], .pointer (some ⟨bg, 0, none⟩)] W (Says (!decide (Inc m s)) W) := by
  have hb0 := hide ((Below.refl W.heap.size W).alloc (Nat.le_refl _) (.cells #[.bool x, .bool y, .slice Ah nh ch] 76))
  have q := hide (increasing_calls Ah nh ch s m hm (W.alloc (.cells #[.bool x, .bool y, .slice Ah nh ch] 76)) lo hi (h.below hb0.out (.inr (Nat.le_refl _))) (by unfold maxLen; omega))
  clear h
  go_enter Try.func111, Try.ntmps111
  go_wp2_with (go_at_call 70; (with_reducible refine q.out.mono ?_); rintro e w' ⟨rfl, rfl⟩)
  go_ret
  exact ⟨rfl, hb0.out⟩

set_option maxRecDepth 100000 in
theorem validEquations_calls (A : Option Addr) (n c : Nat) (R : List (CE × List Int)) (w : World) (lo hi : Nat) (h : RowsE 1048576 w lo hi A n R) (hn : n ≤ 1048576) :
    Calls Try.prog 52 #[.slice A n c] w (Says (decide (EqOk (R.map dE))) w) := by
  have hb0 := hide ((Below.refl w.heap.size w).alloc (Nat.le_refl _) (.cells #[.slice A n c] 39))
  have hlen : (R.map dE).length = n := by rw [List.length_map, h.len]
  by_cases hr : 1 ≤ n ∧ n ≤ 120
  · have hin : inB (n : Int) 1 120 = true := inB_true.2 (by omega)
    have hcell := fun (W : World) (hW : Below (w.heap.size + 1) (w.alloc (.cells #[.slice A n c] 39)) W) => (hW.cell (p := ⟨w.heap.size, 0, none⟩) (by show w.heap.size < _; omega)).trans (show (w.alloc (.cells #[.slice A n c] 39)).cell? ⟨w.heap.size, 0, none⟩ = some (.slice A n c) from (cell_of_row _ _ 0 _ _ (0, 0) (heap_alloc_new w _)).trans rfl)
    have hcell1 := hcell _ (Below.refl _ _)
    have heqs : EqsAt (w.alloc (.cells #[.slice A n c] 39)) A n (R.map dE) := ⟨R, ((h.below hb0.out (.inr (Nat.le_refl _))).top.more (Nat.zero_le _) (Nat.le_refl _)), rfl, hlen.symm⟩
    have q1 := blocksFit_calls A n c (R.map dE) _ heqs ⟨by omega, hn⟩
    have q := fun (W1 : World) (hW1 : Below (w.heap.size + 1) (w.alloc (.cells #[.slice A n c] 39)) W1) => containsFuncE_calls 111 #[.pointer (some ⟨w.heap.size, 0, none⟩)] (fun x => !decide (Inc n x.2.2)) A n c R W1 lo hi ((h.below hb0.out (.inr (Nat.le_refl _))).below hW1 (.inr (by simp))) hn (fun v W => by kernel_rfl)
      (fun x y Ah nh ch s W hW hs hnh => validEquations1_calls x y Ah nh ch s w.heap.size A n c W lo hi hs hnh hn (hcell W (hW1.trans (hW.mono (by have := hW1.size; simpa using this)))) (by have := hW.size; have := hW1.size; simp at this; omega))
    by_cases hfit : blockNo (R.map dE) (n - 1) < 9
    · have hv := eqok_any (e := R.map dE) (by rw [hlen]; exact hr) (by rw [hlen]; exact hfit)
      rw [decide_eq_true hfit] at q1
      rw [hlen] at hv
      replace q1 := hide q1
      replace q := hide q
      replace hv := hide hv
      clear h hcell hr heqs hfit
      go_enter Try.func52, Try.ntmps52
      go_wp2_with (first | (go_at_call 88; (with_reducible refine (within_calls _ _ _ _).mono ?_); rintro e w' ⟨rfl, rfl⟩) | (go_at_call 109; refine q1.out.mono ?_; rintro e w1 ⟨rfl, hb1⟩; rw [World.size_alloc] at hb1; have c1 := (hb1.cell (p := ⟨w.heap.size, 0, none⟩) (by show w.heap.size < _; omega)).trans hcell1) | (go_at_call 110; refine (q.out w1 hb1).mono ?_; rintro e w2 ⟨rfl, hb2⟩))
      go_ret
      have hbw := hb0.out.trans (hb1.mono (by omega))
      exact ⟨ret_b (by rw [hv.out, List.any_map]), hbw.trans (hb2.mono hbw.size)⟩
    · have hv : Hid (decide (EqOk (R.map dE)) = false) := decide_eq_false fun hg => hfit (by have := hg.2.1; rwa [hlen] at this)
      rw [decide_eq_false hfit] at q1
      replace q1 := hide q1
      clear h hcell hr heqs hfit q
      go_enter Try.func52, Try.ntmps52
      go_wp2_with (first | (go_at_call 88; (with_reducible refine (within_calls _ _ _ _).mono ?_); rintro e w' ⟨rfl, rfl⟩) | (go_at_call 109; refine q1.out.mono ?_; rintro e w1 ⟨rfl, hb1⟩))
      go_ret
      exact ⟨ret_b (by rw [hv.out]), hb0.out.trans (hb1.mono (by simp))⟩
  · have hin : inB (n : Int) 1 120 = false := inB_false.2 (by omega)
    have hv : Hid (decide (EqOk (R.map dE)) = false) := decide_eq_false fun hg => hr (by have := hg.1; rwa [hlen] at this)
    clear h hr hlen
    go_enter Try.func52, Try.ntmps52
    go_wp2_with (first | (go_at_call 88; (with_reducible refine (within_calls _ _ _ _).mono ?_); rintro e w' ⟨rfl, rfl⟩))
    go_ret
    exact ⟨ret_b (by rw [hv.out]), hb0.out⟩

end Go.Proofs.Ytbnneahjjcamlaa
