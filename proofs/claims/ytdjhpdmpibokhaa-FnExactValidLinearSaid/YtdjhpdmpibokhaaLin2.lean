/-
  Linear processes as arguments of a law: sizes of rows of summands, and copies. Conditions: at most 1048576 elements.
-/
import Derived.Test.YtdjhpdmpibokhaaLin1
namespace Go.Proofs.Ytdjhpdmpibokhaa
open Go.ChangeShapes Go.WideShapes Go.ChangeAt Go.RowKit
set_option linter.unusedVariables false

theorem szSummandS_b {v : Value} {d : List DSu} {left : Int} {w : World} {lo hi : Nat} (h : ArgSuS w lo hi v d) (h0 : 0 ≤ left) (h1 : left ≤ 1048576) :
    Calls Try.prog 85 #[v, .int .i64 left] w fun e w' => e = .returned (.int .i64 (szLeft left (totSuS d))) ∧ Below w.heap.size w w' := by
  obtain ⟨A, n, c, R, rfl, hn, hR, rfl⟩ := h
  have hn' : n ≤ 9223372036854775807 := by unfold maxLen at hn; omega
  have htot : totSuS (R.map (·.2)) = n + preN (fun r => totSu r.2) R n := by
    unfold totSuS
    rw [List.length_map, hR.len, preN_all _ _ hR.len, List.map_map]
    rfl
  rw [htot]
  clear htot
  by_cases hb : left < n
  · clear hR
    go_enter Try.func85, Try.ntmps85
    go_wp2
    go_ret
    exact ⟨by rw [szLeft_big (by omega)]; rfl, Below.refl _ _⟩
  · replace hR := hide hR
    go_enter Try.func85, Try.ntmps85
    go_wp2
    go_loopw [1, 5] (fun s i wr => ∃ k : Nat, k ≤ n ∧ i = .int .i64 k ∧ s = .int .i64 (left - ((n : Int) + (preN (fun r => totSu r.2) R k : Int))) ∧ ((n + preN (fun r => totSu r.2) R k : Nat) : Int) ≤ left ∧ Below w.heap.size w wr) (fun _ i _ => n - (intOf i).toNat)
    case atStart => exact ⟨0, Nat.zero_le _, rfl, by rw [preN_zero]; go_num, by rw [preN_zero]; omega, Below.refl _ _⟩
    case round =>
      obtain ⟨k, hk, rfl, rfl, hle, hbl⟩ := hrel
      by_cases hlt : k < n
      · obtain ⟨b, off, v0, v1, nm, v3, v4, d, rfl, g1, g2, g3, hx, c0, c1, c2, c3, c4, hs⟩ := (hR.out.below lawsSu hbl (.inr (Nat.le_refl _))).getSu hlt
        have hpre : preN (fun r => totSu r.2) R (k + 1) = preN (fun r => totSu r.2) R k + totSu d := preN_succ hx
        have hmono := preN_mono (fun r => totSu r.2) R (show k + 1 ≤ n by omega)
        have hq := szSummand_b (left := left - ((n : Int) + (preN (fun r => totSu r.2) R k : Int))) hs (by omega) (by omega)
        dsimp only at hq
        clear hs hx hR
        generalize hpk : preN (fun r => totSu r.2) R k = pk at *
        generalize totSu d = ts at *
        rw [hpre] at hmono
        by_cases hbig : left - ((n : Int) + (pk : Int)) < ts
        · rw [szLeft_big hbig] at hq
          replace hq := hide hq
          go_wp2_with (go_at_call 109; (with_reducible refine hq.out.mono ?_); rintro e w1 ⟨rfl, hb1⟩)
          go_ret
          exact ⟨by rw [szLeft_big (by omega)]; rfl, hbl.trans (hb1.mono hbl.size)⟩
        · rw [szLeft_fits hbig] at hq
          replace hq := hide hq
          go_wp2_with (go_at_call 109; (with_reducible refine hq.out.mono ?_); rintro e w1 ⟨rfl, hb1⟩)
          go_roundw
          case rel => exact ⟨k + 1, by omega, by go_num, by rw [hpre]; go_num, by omega, hbl.trans (hb1.mono hbl.size)⟩
          case measure => simp [intOf]; omega
      · have hkn : k = n := by omega
        subst hkn
        go_wp2
        go_ret
        exact ⟨by rw [szLeft_fits (by omega)]; exact ret_i (by omega), hbl⟩

theorem szLinear_b {v : Value} {d : DLi} {left : Int} {w : World} {lo hi : Nat} (h : ArgLi w lo hi v d) (h0 : 0 ≤ left) (h1 : left ≤ 1048576) :
    Calls Try.prog 44 #[v, .int .i64 left] w fun e w' => e = .returned (.int .i64 (szLeft left (totLi d))) ∧ Below w.heap.size w w' := by
  obtain ⟨d0, d1, d2⟩ := d
  obtain ⟨v1, v2, rfl, ⟨A1, n1, c1, e1, hn1, s1⟩, t2⟩ := h
  dsimp only at *
  subst e1
  have l1 := s1.len
  have htot : totLi (d0, d1, d2) = n1 + totSuS d2 := by simp [totLi, l1]
  rw [htot]
  have hb0 : Below w.heap.size w (w.alloc (.cells #[.int .i64 d0, .slice A1 n1 c1, v2] 61)) := (Below.refl _ _).alloc (Nat.le_refl _) _
  replace t2 := t2.below hb0 (.inr (Nat.le_refl _))
  clear s1 l1 htot
  have q1 := szInt64S_calls A1 n1 c1 left (w.alloc (.cells #[.int .i64 d0, .slice A1 n1 c1, v2] 61)) hn1 h0 h1
  by_cases b1 : left < n1
  · rw [szLeft_big b1] at q1
    replace q1 := hide q1
    clear t2
    go_enter Try.func44, Try.ntmps44
    go_wp2_with (first | (go_at_call 84; (with_reducible refine q1.out.mono ?_); rintro e w' ⟨rfl, rfl⟩))
    go_ret
    exact ⟨by rw [szLeft_big (by omega)]; rfl, hb0⟩
  rw [szLeft_fits b1] at q1
  replace q1 := hide q1
  have q2 := szSummandS_b (left := left - n1) t2 (by omega) (by omega)
  generalize totSuS d2 = ts at *
  by_cases b2 : left - n1 < ts
  · rw [szLeft_big b2] at q2
    replace q2 := hide q2
    clear t2
    go_enter Try.func44, Try.ntmps44
    go_wp2_with (first | (go_at_call 84; (with_reducible refine q1.out.mono ?_); rintro e w' ⟨rfl, rfl⟩) | (go_at_call 85; (with_reducible refine q2.out.mono ?_); rintro e w1 ⟨rfl, hb1⟩))
    go_ret
    exact ⟨by rw [szLeft_big (by omega)]; rfl, hb0.trans (hb1.mono hb0.size)⟩
  rw [szLeft_fits b2] at q2
  replace q2 := hide q2
  clear t2
  go_enter Try.func44, Try.ntmps44
  go_wp2_with (first | (go_at_call 84; (with_reducible refine q1.out.mono ?_); rintro e w' ⟨rfl, rfl⟩) | (go_at_call 85; (with_reducible refine q2.out.mono ?_); rintro e w1 ⟨rfl, hb1⟩))
  go_ret
  exact ⟨by rw [szLeft_fits (by omega)]; exact ret_i (by omega), hb0.trans (hb1.mono hb0.size)⟩

end Go.Proofs.Ytdjhpdmpibokhaa
