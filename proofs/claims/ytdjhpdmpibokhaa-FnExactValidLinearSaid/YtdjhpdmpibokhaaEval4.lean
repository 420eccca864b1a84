/-
  Evaluate itself, on both sides. Conditions: none beyond 1048576 terms and values.
-/
import Derived.Test.YtdjhpdmpibokhaaEval3
namespace Go.Proofs.Ytdjhpdmpibokhaa
open Go.ChangeShapes Go.WideShapes Go.ChangeAt Go.RowKit
set_option linter.unusedVariables false

theorem specEvaluate_std (w : World) (A : Option Addr) (n : Nat) (l : List (Int × Int)) (lo hi : Nat) (h : SlT w lo hi A n l) (hn : n ≤ 1048576) (B : Option Addr) (m : Nat) (vals : List Int) (lo' hi' : Nat) (g : SlI w lo' hi' B m vals) (hm : m ≤ 1048576) :
    Calls Try.prog 31 #[.slice A n n, .slice B m m] w fun e w' => e = .returned (.tuple #[.int .i64 (evaluateF l vals).1, .int .i64 (evaluateF l vals).2]) ∧ Below w.heap.size w w' := by
  have hvl := g.len
  have q1 := l03Is_calls A n n l m 60 w lo hi h hn (by omega) (by omega)
  have q2 := l03Data_calls B m m vals w lo' hi' g hm
  by_cases c0 : (29 : Int) < m
  · have hs : Hid (evaluateF l vals = (0, 1)) := if_pos (.inl (by rw [hvl]; exact c0))
    clear h g q1 q2 hvl
    go_enter Try.func31, Try.ntmps31
    go_wp2_with fail
    go_ret2
    exact ⟨by rw [hs.out]; rfl, Below.refl _ _⟩
  by_cases c1 : isTerms l m 60 = true
  · rw [c1] at q1
    replace q1 := hide q1
    by_cases c2 : dataOk vals = true
    · rw [c2] at q2
      replace q2 := hide q2
      have hs : Hid (evaluateF l vals = (valOf vals l, 0)) := if_neg (by rw [hvl, c1, c2]; simp; omega)
      have c29 : isTerms l 29 60 = true := by
        rw [isTerms_covered (by omega)] at c1
        simp only [Bool.and_eq_true] at c1
        exact c1.1
      have q3 := hide (l03Eval_calls A B n n m m l vals w lo hi lo' hi' h g hm c29 (isTerms_ok c1) (dataOk_bd c2))
      clear h g hvl c1 c2 c29
      go_enter Try.func31, Try.ntmps31
      go_wp2_with (first | (go_at_call 50; (with_reducible refine q1.out.mono ?_); rintro e w' ⟨rfl, rfl⟩) | (go_at_call 70; (with_reducible refine q2.out.mono ?_); rintro e w' ⟨rfl, rfl⟩) | (go_at_call 71; (with_reducible refine q3.out.mono ?_); rintro e w' ⟨rfl, rfl⟩))
      go_ret2
      exact ⟨by rw [hs.out]; rfl, Below.refl _ _⟩
    · replace c2 := Bool.eq_false_iff.2 c2
      rw [c2] at q2
      replace q2 := hide q2
      have hs : Hid (evaluateF l vals = (0, 1)) := if_pos (.inr (.inr c2))
      clear h g hvl c1 c2
      go_enter Try.func31, Try.ntmps31
      go_wp2_with (first | (go_at_call 50; (with_reducible refine q1.out.mono ?_); rintro e w' ⟨rfl, rfl⟩) | (go_at_call 70; (with_reducible refine q2.out.mono ?_); rintro e w' ⟨rfl, rfl⟩))
      go_ret2
      exact ⟨by rw [hs.out]; rfl, Below.refl _ _⟩
  · replace c1 := Bool.eq_false_iff.2 c1
    rw [c1] at q1
    replace q1 := hide q1
    have hs : Hid (evaluateF l vals = (0, 1)) := if_pos (.inr (.inl (by rw [hvl]; exact c1)))
    clear h g hvl c1 q2
    go_enter Try.func31, Try.ntmps31
    go_wp2_with (first | (go_at_call 50; (with_reducible refine q1.out.mono ?_); rintro e w' ⟨rfl, rfl⟩))
    go_ret2
    exact ⟨by rw [hs.out]; rfl, Below.refl _ _⟩

theorem implEvaluate_std (w : World) (A : Option Addr) (n : Nat) (l : List (Int × Int)) (lo hi : Nat) (h : SlT w lo hi A n l) (hn : n ≤ 1048576) (B : Option Addr) (m : Nat) (vals : List Int) (lo' hi' : Nat) (g : SlI w lo' hi' B m vals) (hm : m ≤ 1048576) :
    Calls Try.prog 33 #[.slice A n n, .slice B m m] w fun e w' => e = .returned (.tuple #[.int .i64 (evaluateF l vals).1, .int .i64 (evaluateF l vals).2]) ∧ Below w.heap.size w w' := by
  have hvl := g.len
  have q1 := termsOk_calls A n n l w lo hi h hn
  have q2 := fun W (hW : Below w.heap.size w W) => areValues_calls B m m vals W _ _ (g.below hW (.inr (Nat.le_refl _))) hm
  have q3 := fun W (hW : Below w.heap.size w W) => covered_calls A n n l m W _ _ (h.below hW (.inr (Nat.le_refl _))) hn
  by_cases c1 : isTerms l 29 60 = true
  · rw [c1] at q1
    replace q1 := hide q1
    by_cases c0 : (29 : Int) < m
    · have hs : Hid (evaluateF l vals = (0, 1)) := if_pos (.inl (by rw [hvl]; exact c0))
      clear h g q2 q3 hvl c1
      go_enter Try.func33, Try.ntmps33
      go_wp2_with (first | (go_at_call 58; (with_reducible refine q1.out.mono ?_); rintro e w1 ⟨rfl, hb1⟩))
      go_ret2
      exact ⟨by rw [hs.out]; rfl, hb1⟩
    by_cases c2 : dataOk vals = true
    · simp only [c2] at q2
      replace q2 := hide q2
      by_cases c3 : l.any (uncov m) = true
      · simp only [c3] at q3
        replace q3 := hide q3
        have hcm : isTerms l m 60 = false := by
          rw [isTerms_covered (by omega)]
          have : (l.any fun t => decide (t.1 = 1) && decide ((m : Int) ≤ t.2)) = true := c3
          rw [this]
          simp
        have hs : Hid (evaluateF l vals = (0, 1)) := if_pos (.inr (.inl (by rw [hvl]; exact hcm)))
        clear h g hvl c1 c2 c3 hcm
        go_enter Try.func33, Try.ntmps33
        go_wp2_with (first | (go_at_call 58; (with_reducible refine q1.out.mono ?_); rintro e w1 ⟨rfl, hb1⟩))
        refine (q2.out _ hb1).mono ?_
        rintro e w2 ⟨rfl, hb2⟩
        have hb := hb1.trans (hb2.mono hb1.size)
        clear hb1 hb2
        go_wp2_with fail
        refine (q3.out _ hb).mono ?_
        rintro e w3 ⟨rfl, hb3⟩
        replace hb := hb.trans (hb3.mono hb.size)
        clear hb3
        go_wp2_with fail
        go_ret2
        exact ⟨by rw [hs.out]; rfl, hb⟩
      · replace c3 := Bool.eq_false_iff.2 c3
        simp only [c3] at q3
        replace q3 := hide q3
        have hcm : isTerms l m 60 = true := by
          rw [isTerms_covered (by omega), c1]
          have : (l.any fun t => decide (t.1 = 1) && decide ((m : Int) ≤ t.2)) = false := c3
          rw [this]
          rfl
        have hs : Hid (evaluateF l vals = (valOf vals l, 0)) := if_neg (by rw [hvl, hcm, c2]; simp; omega)
        have q4 := hide (fun W (hW : Below w.heap.size w W) => evaluate_calls A B n m m l vals W _ _ _ _ (h.below hW (.inr (Nat.le_refl _))) (g.below hW (.inr (Nat.le_refl _))) (by omega) hcm c2)
        clear h g hvl c1 c2 c3 hcm
        go_enter Try.func33, Try.ntmps33
        go_wp2_with (first | (go_at_call 58; (with_reducible refine q1.out.mono ?_); rintro e w1 ⟨rfl, hb1⟩))
        refine (q2.out _ hb1).mono ?_
        rintro e w2 ⟨rfl, hb2⟩
        have hb := hb1.trans (hb2.mono hb1.size)
        clear hb1 hb2
        go_wp2_with fail
        refine (q3.out _ hb).mono ?_
        rintro e w3 ⟨rfl, hb3⟩
        replace hb := hb.trans (hb3.mono hb.size)
        clear hb3
        go_wp2_with fail
        refine (q4.out _ hb).mono ?_
        rintro e w4 ⟨rfl, hb4⟩
        replace hb := hb.trans (hb4.mono hb.size)
        clear hb4
        go_wp2_with fail
        go_ret2
        exact ⟨by rw [hs.out]; rfl, hb⟩
    · replace c2 := Bool.eq_false_iff.2 c2
      simp only [c2] at q2
      replace q2 := hide q2
      have hs : Hid (evaluateF l vals = (0, 1)) := if_pos (.inr (.inr c2))
      clear h g hvl c1 c2 q3
      go_enter Try.func33, Try.ntmps33
      go_wp2_with (first | (go_at_call 58; (with_reducible refine q1.out.mono ?_); rintro e w1 ⟨rfl, hb1⟩))
      refine (q2.out _ hb1).mono ?_
      rintro e w2 ⟨rfl, hb2⟩
      have hb := hb1.trans (hb2.mono hb1.size)
      clear hb1 hb2
      go_wp2_with fail
      go_ret2
      exact ⟨by rw [hs.out]; rfl, hb⟩
  · replace c1 := Bool.eq_false_iff.2 c1
    rw [c1] at q1
    replace q1 := hide q1
    have hs : Hid (evaluateF l vals = (0, 1)) := by
      by_cases c0 : (29 : Int) < m
      · exact if_pos (.inl (by rw [hvl]; exact c0))
      · refine if_pos (.inr (.inl ?_))
        rw [hvl, isTerms_covered (by omega), c1]
        rfl
    clear h g hvl c1 q2 q3
    go_enter Try.func33, Try.ntmps33
    go_wp2_with (first | (go_at_call 58; (with_reducible refine q1.out.mono ?_); rintro e w1 ⟨rfl, hb1⟩))
    go_ret2
    exact ⟨by rw [hs.out]; rfl, hb1⟩

end Go.Proofs.Ytdjhpdmpibokhaa
