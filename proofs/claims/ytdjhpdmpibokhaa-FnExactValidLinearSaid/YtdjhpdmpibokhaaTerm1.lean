/-
  What the functions that ask whether terms are valid compute. Conditions: at most 1048576 terms.
-/
import Derived.Test.YtdjhpdmpibokhaaRows
import Derived.Test.YtdjhpdmpibokhaaTermMath
import Derived.LoopTactic
import Derived.StillTailTactics
import Derived.Outline
namespace Go.Proofs.Ytdjhpdmpibokhaa
open Go.ChangeShapes Go.WideShapes Go.ChangeAt Go.RowKit
set_option linter.unusedVariables false

theorem l00In_calls (n lo hi : Int) (w : World) :
    Calls Try.prog 49 #[.int .i64 n, .int .i64 lo, .int .i64 hi] w fun e w' => e = .returned (.bool (inB n lo hi)) ∧ w = w' := by
  by_cases h : lo ≤ n
  · have hr := hide (show inB n lo hi = decide (n ≤ hi) from by unfold inB; simp [h])
    go_enter Try.func49, Try.ntmps49
    go_wp2
    go_ret
    exact ⟨ret_b (by rw [hr.out]), rfl⟩
  · have hr := hide (show inB n lo hi = false from by unfold inB; simp [h])
    go_enter Try.func49, Try.ntmps49
    go_wp2
    go_ret
    exact ⟨ret_b (by rw [hr.out]), rfl⟩

theorem within_calls (n lo hi : Int) (w : World) :
    Calls Try.prog 52 #[.int .i64 n, .int .i64 lo, .int .i64 hi] w fun e w' => e = .returned (.bool (inB n lo hi)) ∧ w = w' := by
  by_cases h : lo ≤ n
  · have hr := hide (show inB n lo hi = decide (n ≤ hi) from by unfold inB; simp [h])
    go_enter Try.func52, Try.ntmps52
    go_wp2
    go_ret
    exact ⟨ret_b (by rw [hr.out]), rfl⟩
  · have hr := hide (show inB n lo hi = false from by unfold inB; simp [h])
    go_enter Try.func52, Try.ntmps52
    go_wp2
    go_ret
    exact ⟨ret_b (by rw [hr.out]), rfl⟩

theorem isValue_calls (n : Int) (w : World) :
    Calls Try.prog 94 #[.int .i64 n] w fun e w' => e = .returned (.bool (inB n 0 63)) ∧ w = w' := by
  go_enter Try.func94, Try.ntmps94
  go_wp2_with (go_at_call 52; refine (within_calls _ _ _ _).mono ?_; rintro e w' ⟨rfl, rfl⟩)
  go_ret
  exact ⟨rfl, rfl⟩

theorem l03Arity_calls (b o : Nat) (x y : Int) (w : World) (h0 : w.cell? ⟨b, o, none⟩ = some (.int .i64 x)) :
    Calls Try.prog 57 #[.pointer (some ⟨b, o, none⟩)] w fun e w' => e = .returned (.int .i64 (arity (x, y))) ∧ w = w' := by
  by_cases h2 : x = 2
  · subst h2
    have hr : Hid (arity (2, y) = 2) := rfl
    go_enter Try.func57, Try.ntmps57
    go_wp2
    go_ret
    exact ⟨ret_i (by rw [hr.out]), rfl⟩
  by_cases h3 : x = 3
  · subst h3
    have hr : Hid (arity (3, y) = 1) := rfl
    go_enter Try.func57, Try.ntmps57
    go_wp2
    go_ret
    exact ⟨ret_i (by rw [hr.out]), rfl⟩
  have hr := hide (show arity (x, y) = 0 from by unfold arity; simp [h2, h3])
  have e2 : (x == 2) = false := by simpa using h2
  have e3 : (x == 3) = false := by simpa using h3
  clear h2 h3
  go_enter Try.func57, Try.ntmps57
  go_wp2
  go_ret
  exact ⟨ret_i (by rw [hr.out]), rfl⟩

theorem operands_calls (x y : Int) (w : World) :
    Calls Try.prog 54 #[.agg #[.int .i64 x, .int .i64 y]] w fun e w' => e = .returned (.int .i64 (arity (x, y))) ∧ Below w.heap.size w w' := by
  by_cases h2 : x = 2
  · subst h2
    have hr : Hid (arity (2, y) = 2) := rfl
    go_enter Try.func54, Try.ntmps54
    go_wp2
    go_ret
    exact ⟨ret_i (by rw [hr.out]), by go_grown⟩
  by_cases h3 : x = 3
  · subst h3
    have hr : Hid (arity (3, y) = 1) := rfl
    go_enter Try.func54, Try.ntmps54
    go_wp2
    go_ret
    exact ⟨ret_i (by rw [hr.out]), by go_grown⟩
  have hr := hide (show arity (x, y) = 0 from by unfold arity; simp [h2, h3])
  have e2 : (x == 2) = false := by simpa using h2
  have e3 : (x == 3) = false := by simpa using h3
  clear h2 h3
  go_enter Try.func54, Try.ntmps54
  go_wp2
  go_ret
  exact ⟨ret_i (by rw [hr.out]), by go_grown⟩

theorem l03Term_calls (b o : Nat) (x y v : Int) (w : World) (h0 : w.cell? ⟨b, o, none⟩ = some (.int .i64 x)) (h1 : w.cell? ⟨b, o + 1, none⟩ = some (.int .i64 y)) (hv0 : -1048576 ≤ v) (hv1 : v ≤ 1048576) :
    Calls Try.prog 93 #[.pointer (some ⟨b, o, none⟩), .int .i64 v] w fun e w' => e = .returned (.bool (okTerm (x, y) v)) ∧ w = w' := by
  by_cases c0 : x = 0
  · subst c0
    have hr : Hid (okTerm (0, y) v = inB y 0 63) := rfl
    go_enter Try.func93, Try.ntmps93
    go_wp2_with (go_at_call 49; refine (l00In_calls _ _ _ _).mono ?_; rintro e w' ⟨rfl, rfl⟩)
    go_ret
    exact ⟨ret_b (by rw [hr.out]), rfl⟩
  by_cases c1 : x = 1
  · subst c1
    have hr : Hid (okTerm (1, y) v = inB y 0 (v - 1)) := rfl
    go_enter Try.func93, Try.ntmps93
    go_wp2_with (go_at_call 49; refine (l00In_calls _ _ _ _).mono ?_; rintro e w' ⟨rfl, rfl⟩)
    go_ret
    exact ⟨ret_b (by rw [hr.out]), rfl⟩
  by_cases c2 : x = 2
  · subst c2
    have hr : Hid (okTerm (2, y) v = inB y 0 8) := rfl
    go_enter Try.func93, Try.ntmps93
    go_wp2_with (go_at_call 49; refine (l00In_calls _ _ _ _).mono ?_; rintro e w' ⟨rfl, rfl⟩)
    go_ret
    exact ⟨ret_b (by rw [hr.out]), rfl⟩
  by_cases c3 : x = 3
  · subst c3
    have hr := hide (show okTerm (3, y) v = (y == 0) from by rw [beq_dec]; rfl)
    go_enter Try.func93, Try.ntmps93
    go_wp2
    go_ret
    exact ⟨ret_b (by rw [hr.out]), rfl⟩
  have hr := hide (show okTerm (x, y) v = false from by unfold okTerm; simp [c0, c1, c2, c3])
  have e0 : (x == 0) = false := by simpa using c0
  have e1 : (x == 1) = false := by simpa using c1
  have e2 : (x == 2) = false := by simpa using c2
  have e3 : (x == 3) = false := by simpa using c3
  clear c0 c1 c2 c3
  go_enter Try.func93, Try.ntmps93
  go_wp2
  go_ret
  exact ⟨ret_b (by rw [hr.out]), rfl⟩

theorem valid_calls (x y v : Int) (w : World) (hv0 : -1048576 ≤ v) (hv1 : v ≤ 1048576) :
    Calls Try.prog 53 #[.agg #[.int .i64 x, .int .i64 y], .int .i64 v] w fun e w' => e = .returned (.bool (okTerm (x, y) v)) ∧ Below w.heap.size w w' := by
  by_cases c0 : x = 0
  · subst c0
    have hr : Hid (okTerm (0, y) v = inB y 0 63) := rfl
    go_enter Try.func53, Try.ntmps53
    go_wp2_with (go_at_call 94; refine (isValue_calls _ _).mono ?_; rintro e w' ⟨rfl, rfl⟩)
    go_ret
    exact ⟨ret_b (by rw [hr.out]), by go_grown⟩
  by_cases c1 : x = 1
  · subst c1
    have hr : Hid (okTerm (1, y) v = inB y 0 (v - 1)) := rfl
    go_enter Try.func53, Try.ntmps53
    go_wp2_with (go_at_call 52; refine (within_calls _ _ _ _).mono ?_; rintro e w' ⟨rfl, rfl⟩)
    go_ret
    exact ⟨ret_b (by rw [hr.out]), by go_grown⟩
  by_cases c2 : x = 2
  · subst c2
    have hr : Hid (okTerm (2, y) v = inB y 0 8) := rfl
    go_enter Try.func53, Try.ntmps53
    go_wp2_with (go_at_call 52; refine (within_calls _ _ _ _).mono ?_; rintro e w' ⟨rfl, rfl⟩)
    go_ret
    exact ⟨ret_b (by rw [hr.out]), by go_grown⟩
  by_cases c3 : x = 3
  · subst c3
    have hr := hide (show okTerm (3, y) v = (y == 0) from by rw [beq_dec]; rfl)
    go_enter Try.func53, Try.ntmps53
    go_wp2
    go_ret
    exact ⟨ret_b (by rw [hr.out]), by go_grown⟩
  have hr := hide (show okTerm (x, y) v = false from by unfold okTerm; simp [c0, c1, c2, c3])
  have e0 : (x == 0) = false := by simpa using c0
  have e1 : (x == 1) = false := by simpa using c1
  have e2 : (x == 2) = false := by simpa using c2
  have e3 : (x == 3) = false := by simpa using c3
  clear c0 c1 c2 c3
  go_enter Try.func53, Try.ntmps53
  go_wp2
  go_ret
  exact ⟨ret_b (by rw [hr.out]), by go_grown⟩

theorem l03Is_calls (A : Option Addr) (n c : Nat) (l : List (Int × Int)) (v most : Int) (w : World) (lo hi : Nat) (h : SlT w lo hi A n l) (hn : n ≤ 1048576) (hv0 : -1048576 ≤ v) (hv1 : v ≤ 1048576) :
    Calls Try.prog 50 #[.slice A n c, .int .i64 v, .int .i64 most] w fun e w' => e = .returned (.bool (isTerms l v most)) ∧ w = w' := by
  have hlen := hide h.len
  by_cases hm : most < n
  · have hr := hide (show isTerms l v most = false from by unfold isTerms; rw [hlen.out, if_pos hm])
    go_enter Try.func50, Try.ntmps50
    go_wp2
    go_ret
    exact ⟨ret_b (by rw [hr.out]), rfl⟩
  · have hr := hide (show isTerms l v most = isLoop l v 1 from by unfold isTerms; rw [hlen.out, if_neg hm])
    go_enter Try.func50, Try.ntmps50
    go_wp2
    go_loop [7, 8] (fun q i => ∃ (k : Nat) (q' : Int), k ≤ n ∧ i = .int .i64 k ∧ q = .int .i64 q' ∧ 0 ≤ q' ∧ q' ≤ 1 + k ∧ Hid (isLoop l v 1 = isLoop (l.drop k) v q')) (fun _ i => n - (intOf i).toNat)
    case atStart => exact ⟨0, 1, Nat.zero_le _, rfl, rfl, by omega, by omega, rfl⟩
    case round =>
      obtain ⟨k, q, hk, rfl, rfl, hq0, hq1, he⟩ := hrel
      by_cases hlt : k < n
      · obtain ⟨b, off, x1, x2, rfl, g1, g2, g3, hx, c0, c1, -, -⟩ := h.get hlt
        replace hx := hide hx
        clear h
        by_cases hz : q = 0
        · subst hz
          have hf := hide (isLoop_zero (v := v) hx.out)
          go_wp2
          go_ret
          exact ⟨ret_b (by rw [hr.out, he.out, hf.out]), rfl⟩
        · have ez : (q == 0) = false := by simpa using hz
          have hq2 : 1 ≤ q := by omega
          replace hz := hide hz
          have hab := arity_bd (x1, x2)
          by_cases hok : okTerm (x1, x2) v = true
          · have hq := l03Term_calls _ _ _ _ v w c0 c1 hv0 hv1
            rw [hok] at hq
            replace hq := hide hq
            replace hok := hide hok
            go_wp2_with (first | (go_at_call 93; refine hq.out.mono ?_; rintro e w1 ⟨rfl, rfl⟩) | (go_at_call 57; refine (l03Arity_calls _ _ x1 x2 _ c0).mono ?_; rintro e w1 ⟨rfl, rfl⟩))
            go_round
            case rel => exact ⟨k + 1, q + (arity (x1, x2) - 1), by omega, by go_num, rfl, by omega, by omega, isLoop_step' he.out hx.out hz.out hok.out (by omega)⟩
            case measure => simp [intOf]; omega
          · replace hok := Bool.eq_false_iff.2 hok
            have hq := l03Term_calls _ _ _ _ v w c0 c1 hv0 hv1
            rw [hok] at hq
            replace hq := hide hq
            have hf := hide (isLoop_bad (q := q) hx.out hok)
            clear hok
            go_wp2_with (first | (go_at_call 93; refine hq.out.mono ?_; rintro e w1 ⟨rfl, rfl⟩))
            go_ret
            exact ⟨ret_b (by rw [hr.out, he.out, hf.out]), rfl⟩
      · have hkn : k = n := by omega
        subst hkn
        have hf := hide (isLoop_end (v := v) (q := q) hlen.out)
        go_wp2
        go_ret
        exact ⟨ret_b (by rw [hr.out, he.out, hf.out, beq_dec]), rfl⟩

theorem l03Any_calls (A : Option Addr) (n c : Nat) (l : List (Int × Int)) (w : World) (lo hi : Nat) (h : SlT w lo hi A n l) (hn : n ≤ 1048576) :
    Calls Try.prog 56 #[.slice A n c] w fun e w' => e = .returned (.bool (isTerms l 29 60)) ∧ w = w' := by
  go_enter Try.func56, Try.ntmps56
  go_wp2_with (go_at_call 50; refine (l03Is_calls _ _ _ _ _ _ _ _ _ h hn (by omega) (by omega)).mono ?_; rintro e w' ⟨rfl, rfl⟩)
  go_ret
  exact ⟨rfl, rfl⟩

theorem specValidTerms_calls (A : Option Addr) (n c : Nat) (l : List (Int × Int)) (v most : Int) (w : World) (lo hi : Nat) (h : SlT w lo hi A n l) (hn : n ≤ 1048576) :
    Calls Try.prog 13 #[.slice A n c, .int .i64 v, .int .i64 most] w fun e w' => e = .returned (.bool (validTerms l v most)) ∧ w = w' := by
  have q1 := l00In_calls v 0 29 w
  have q2 := l00In_calls most 1 60 w
  by_cases c1 : inB v 0 29 = true
  · rw [c1] at q1
    replace q1 := hide q1
    have hv : 0 ≤ v ∧ v ≤ 29 := by simpa [inB] using c1
    by_cases c2 : inB most 1 60 = true
    · rw [c2] at q2
      replace q2 := hide q2
      have hr := hide (show validTerms l v most = isTerms l v most from by unfold validTerms; rw [c1, c2]; rfl)
      have q3 := hide (l03Is_calls A n c l v most w lo hi h hn (by omega) (by omega))
      clear c1 c2
      go_enter Try.func13, Try.ntmps13
      go_wp2_with (first | (go_at_call 49; (with_reducible refine q1.out.mono ?_); rintro e w' ⟨rfl, rfl⟩) | (go_at_call 49; (with_reducible refine q2.out.mono ?_); rintro e w' ⟨rfl, rfl⟩) | (go_at_call 50; (with_reducible refine q3.out.mono ?_); rintro e w' ⟨rfl, rfl⟩))
      go_ret
      exact ⟨ret_b (by rw [hr.out]), rfl⟩
    · replace c2 := Bool.eq_false_iff.2 c2
      rw [c2] at q2
      replace q2 := hide q2
      have hr := hide (show validTerms l v most = false from by unfold validTerms; rw [c1, c2]; rfl)
      clear c1 c2
      go_enter Try.func13, Try.ntmps13
      go_wp2_with (first | (go_at_call 49; (with_reducible refine q1.out.mono ?_); rintro e w' ⟨rfl, rfl⟩) | (go_at_call 49; (with_reducible refine q2.out.mono ?_); rintro e w' ⟨rfl, rfl⟩))
      go_ret
      exact ⟨ret_b (by rw [hr.out]), rfl⟩
  · replace c1 := Bool.eq_false_iff.2 c1
    rw [c1] at q1
    replace q1 := hide q1
    have hr := hide (show validTerms l v most = false from by unfold validTerms; rw [c1]; rfl)
    clear c1 q2
    go_enter Try.func13, Try.ntmps13
    go_wp2_with (first | (go_at_call 49; (with_reducible refine q1.out.mono ?_); rintro e w' ⟨rfl, rfl⟩))
    go_ret
    exact ⟨ret_b (by rw [hr.out]), rfl⟩

theorem implValidTerms_calls (A : Option Addr) (n c : Nat) (l : List (Int × Int)) (v most : Int) (w : World) (lo hi : Nat) (h : SlT w lo hi A n l) (hn : n ≤ 1048576) :
    Calls Try.prog 15 #[.slice A n c, .int .i64 v, .int .i64 most] w fun e w' => e = .returned (.bool (validTerms l v most)) ∧ Below w.heap.size w w' := by
  have hlen := hide h.len
  have q1 := within_calls v 0 29 w
  have q2 := within_calls most 1 60 w
  have q3 := within_calls n 1 most w
  by_cases c1 : inB v 0 29 = true
  · rw [c1] at q1
    replace q1 := hide q1
    have hv : 0 ≤ v ∧ v ≤ 29 := by simpa [inB] using c1
    by_cases c2 : inB most 1 60 = true
    · rw [c2] at q2
      replace q2 := hide q2
      have hm : 1 ≤ most ∧ most ≤ 60 := by simpa [inB] using c2
      by_cases c3 : inB n 1 most = true
      · rw [c3] at q3
        replace q3 := hide q3
        have hnm : 1 ≤ (n : Int) ∧ (n : Int) ≤ most := by simpa [inB] using c3
        have hr := hide (show validTerms l v most = isLoop l v 1 from by unfold validTerms isTerms; rw [c1, c2, hlen.out, if_neg (by omega)]; rfl)
        clear c1 c2 c3
        go_enter Try.func15, Try.ntmps15
        go_wp2_with (first | (go_at_call 52; (with_reducible refine q1.out.mono ?_); rintro e w' ⟨rfl, rfl⟩) | (go_at_call 52; (with_reducible refine q2.out.mono ?_); rintro e w' ⟨rfl, rfl⟩) | (go_at_call 52; (with_reducible refine q3.out.mono ?_); rintro e w' ⟨rfl, rfl⟩))
        clear q1 q2 q3
        go_loopw [7, 27] (fun q i wr => ∃ (k : Nat) (q' : Int), k ≤ n ∧ i = .int .i64 k ∧ q = .int .i64 q' ∧ 0 ≤ q' ∧ q' ≤ 1 + k ∧ Hid (isLoop l v 1 = isLoop (l.drop k) v q') ∧ Below w.heap.size w wr) (fun _ i _ => n - (intOf i).toNat)
        case atStart => exact ⟨0, 1, Nat.zero_le _, rfl, rfl, by omega, by omega, rfl, Below.refl _ _⟩
        case round =>
          obtain ⟨k, q, hk, rfl, rfl, hq0, hq1, he, hb⟩ := hrel
          have hsz := hb.size
          by_cases hlt : k < n
          · obtain ⟨b, off, x1, x2, rfl, g1, g2, g3, hx, c0, c1, -, -⟩ := h.get hlt
            replace c0 := (hb.cell g3).trans c0
            replace c1 := (hb.cell (p := ⟨b, off + k * 2 + 1, none⟩) g3).trans c1
            replace hx := hide hx
            clear h
            by_cases hz : q = 0
            · subst hz
              have hf := hide (isLoop_zero (v := v) hx.out)
              go_wp2
              go_ret
              exact ⟨ret_b (by rw [hr.out, he.out, hf.out]), by go_grown⟩
            · have ez : (q == 0) = false := by simpa using hz
              have hq2 : 1 ≤ q := by omega
              replace hz := hide hz
              have hab := arity_bd (x1, x2)
              by_cases hok : okTerm (x1, x2) v = true
              · have hq := fun W => valid_calls x1 x2 v W (by omega) (by omega)
                simp only [hok] at hq
                replace hq := hide hq
                replace hok := hide hok
                go_wp2_with (first | (go_at_call 53; (with_reducible refine (hq.out _).mono ?_); rintro e w1 ⟨rfl, hb1⟩; obtain ⟨hc, hf⟩ := oldCells hb1) | (go_at_call 54; (with_reducible refine (operands_calls x1 x2 _).mono ?_); rintro e w2 ⟨rfl, hb2⟩))
                go_roundw
                case rel => exact ⟨k + 1, q + (arity (x1, x2) - 1), by omega, by go_num, rfl, by omega, by omega, isLoop_step' he.out hx.out hz.out hok.out (by omega), ((hb.alloc hsz _).trans (hb1.mono (by simp; omega))).trans (hb2.mono (by have := hb1.size; simp at this; omega))⟩
                case measure => simp [intOf]; omega
              · replace hok := Bool.eq_false_iff.2 hok
                have hq := fun W => valid_calls x1 x2 v W (by omega) (by omega)
                simp only [hok] at hq
                replace hq := hide hq
                have hf := hide (isLoop_bad (q := q) hx.out hok)
                clear hok
                go_wp2_with (first | (go_at_call 53; (with_reducible refine (hq.out _).mono ?_); rintro e w1 ⟨rfl, hb1⟩))
                go_ret
                exact ⟨ret_b (by rw [hr.out, he.out, hf.out]), (hb.alloc hsz _).trans (hb1.mono (by simp; omega))⟩
          · have hkn : k = n := by omega
            subst hkn
            have hf := hide (isLoop_end (v := v) (q := q) hlen.out)
            go_wp2
            go_ret
            exact ⟨ret_b (by rw [hr.out, he.out, hf.out, beq_dec]), hb⟩
      · replace c3 := Bool.eq_false_iff.2 c3
        rw [c3] at q3
        replace q3 := hide q3
        have hr : Hid (validTerms l v most = false) := by
          have hl := hlen.out
          unfold validTerms isTerms
          rw [c1, c2, hl]
          split
          · rfl
          · rename_i hnm
            simp [inB] at c3
            have : n = 0 := by omega
            subst this
            rw [List.eq_nil_of_length_eq_zero hl]
            rfl
        clear c1 c2 c3
        go_enter Try.func15, Try.ntmps15
        go_wp2_with (first | (go_at_call 52; (with_reducible refine q1.out.mono ?_); rintro e w' ⟨rfl, rfl⟩) | (go_at_call 52; (with_reducible refine q2.out.mono ?_); rintro e w' ⟨rfl, rfl⟩) | (go_at_call 52; (with_reducible refine q3.out.mono ?_); rintro e w' ⟨rfl, rfl⟩))
        go_ret
        exact ⟨ret_b (by rw [hr.out]), Below.refl _ _⟩
    · replace c2 := Bool.eq_false_iff.2 c2
      rw [c2] at q2
      replace q2 := hide q2
      have hr := hide (show validTerms l v most = false from by unfold validTerms; rw [c1, c2]; rfl)
      clear c1 c2 q3
      go_enter Try.func15, Try.ntmps15
      go_wp2_with (first | (go_at_call 52; (with_reducible refine q1.out.mono ?_); rintro e w' ⟨rfl, rfl⟩) | (go_at_call 52; (with_reducible refine q2.out.mono ?_); rintro e w' ⟨rfl, rfl⟩))
      go_ret
      exact ⟨ret_b (by rw [hr.out]), Below.refl _ _⟩
  · replace c1 := Bool.eq_false_iff.2 c1
    rw [c1] at q1
    replace q1 := hide q1
    have hr := hide (show validTerms l v most = false from by unfold validTerms; rw [c1]; rfl)
    clear c1 q2 q3
    go_enter Try.func15, Try.ntmps15
    go_wp2_with (first | (go_at_call 52; (with_reducible refine q1.out.mono ?_); rintro e w' ⟨rfl, rfl⟩))
    go_ret
    exact ⟨ret_b (by rw [hr.out]), Below.refl _ _⟩

theorem termsOk_calls (A : Option Addr) (n c : Nat) (l : List (Int × Int)) (w : World) (lo hi : Nat) (h : SlT w lo hi A n l) (hn : n ≤ 1048576) :
    Calls Try.prog 58 #[.slice A n c] w fun e w' => e = .returned (.bool (isTerms l 29 60)) ∧ Below w.heap.size w w' := by
  have hr : Hid (validTerms l 29 60 = isTerms l 29 60) := rfl
  go_enter Try.func58, Try.ntmps58
  go_wp2_with (go_at_call 15; (with_reducible refine (implValidTerms_calls _ _ _ _ _ _ _ _ _ h hn).mono ?_); rintro e w' ⟨rfl, hb⟩)
  go_ret
  exact ⟨ret_b (by rw [hr.out]), hb⟩

end Go.Proofs.Ytdjhpdmpibokhaa
