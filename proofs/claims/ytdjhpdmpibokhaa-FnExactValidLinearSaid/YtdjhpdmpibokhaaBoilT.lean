/-
  The laws' helpers on lists of terms: copying, comparing, marking, asking for the marks. Conditions: at most 1048576 terms.
-/
import Derived.Test.YtdjhpdmpibokhaaRows
import Derived.Test.YtdjhpdmpibokhaaWords
import Derived.LoopTactic
import Derived.StillTailTactics
import Derived.Outline
namespace Go.Proofs.Ytdjhpdmpibokhaa
open Go.ChangeShapes Go.WideShapes Go.ChangeAt Go.RowKit
set_option linter.unusedVariables false

theorem info_implTerm : (Try.prog.info? 72).map (fun i => (i.zero, i.size, i.bytes)) = some (some (.agg #[.int .i64 0, .int .i64 0]), 2, 16) := by kernel_rfl

theorem toTerm_calls (a b : Int) (w : World) :
    Calls Try.prog 51 #[.agg #[.int .i64 a, .int .i64 b]] w fun e w' => e = .returned (.agg #[.int .i64 a, .int .i64 b]) ∧ Below w.heap.size w w' := by
  go_enter Try.func51, Try.ntmps51
  go_wp2
  go_returns
  refine ⟨rfl, ?_⟩
  go_grown

theorem toTermS_calls (A : Option Addr) (n c : Nat) (l : List (Int × Int)) (w : World) (lo hi : Nat) (h : SlT w lo hi A n l) (hn : n ≤ 1048576) :
    Calls Try.prog 14 #[.slice A n c] w fun e w' => ∃ A', e = .returned (.slice A' n n) ∧ Below w.heap.size w w' ∧ SlT w' w.heap.size w'.heap.size A' n l := by
  obtain ⟨i0, hi0, hz0, hz1, hz2⟩ := info_parts info_implTerm
  have hmk := fun W => make_row (P := Try.prog) 25 72 i0 _ _ n Try.underlying25 hi0 hz0 hz1 (by rw [hz2]; omega) (by omega) W
  clear hi0 hz0 hz1 hz2
  have hlen := hide h.len
  go_enter Try.func14, Try.ntmps14
  go_wp2
  go_loopw [4] (fun i wr => ∃ k : Nat, k ≤ n ∧ i = .int .i64 k ∧ Below w.heap.size w wr ∧ Fill 2 tv wr w.heap.size 72 n k l) (fun i _ => n - (intOf i).toNat)
  case atStart => exact ⟨0, Nat.zero_le _, rfl, (Below.refl _ _).alloc (Nat.le_refl _) _, Fill.start _ _ _ _ (by simp [madeCells])⟩
  case round =>
    obtain ⟨k, hk, rfl, hb, hf⟩ := hrel
    clear hmk
    by_cases hlt : k < n
    · obtain ⟨b, off, x1, x2, rfl, g1, g2, g3, hx, c0, c1, -, -⟩ := h.get hlt
      replace c0 := (hb.cell g3).trans c0
      replace c1 := (hb.cell (p := ⟨b, off + k * 2 + 1, none⟩) g3).trans c1
      replace hx := hide hx
      clear h
      go_wp2_with (first | (go_at_call 51; refine (toTerm_calls _ _ _).mono ?_; rintro e w1 ⟨rfl, hb1⟩; have hf1 := hf.keep (hb1.block _ hf.lt); obtain ⟨v0, d0⟩ := hf1.cell (i := k * 2) (by omega); obtain ⟨v1, d1⟩ := hf1.cell (i := k * 2 + 1) (by omega); have z0 := hf1.frozen (k * 2); have z1 := hf1.frozen (k * 2 + 1)))
      go_roundw
      case rel => exact ⟨k + 1, by omega, by go_num, ((hb.trans (hb1.mono hb.size)).setCell (Nat.le_refl _) _).setCell (Nat.le_refl _) _, hf1.set2 hlt (fun _ => rfl) hx.out rfl⟩
      case measure => simp [intOf]; omega
    · have : k = n := by omega
      subst this
      go_wp2
      go_ret
      exact ⟨_, rfl, hb, hf.done hlen.out (Nat.le_refl _) hf.lt⟩

theorem szTermS_calls (A : Option Addr) (n c : Nat) (left : Int) (w : World) (hn : n ≤ maxLen) (h0 : 0 ≤ left) (h1 : left ≤ 1048576) :
    Calls Try.prog 12 #[.slice A n c, .int .i64 left] w fun e w' => e = .returned (.int .i64 (if left < n then -1 else left - n)) ∧ w = w' := by
  unfold maxLen at hn
  by_cases h : left < n
  · go_enter Try.func12, Try.ntmps12
    go_wp2
    go_ret
    exact ⟨rfl, rfl⟩
  · go_enter Try.func12, Try.ntmps12
    go_wp2
    go_ret
    exact ⟨rfl, rfl⟩

theorem eqTerm_calls (a b c d : Int) (w : World) :
    Calls Try.prog 55 #[.agg #[.int .i64 a, .int .i64 b], .agg #[.int .i64 c, .int .i64 d]] w fun e w' => e = .returned (.bool (decide (a = c) && decide (b = d))) ∧ Below w.heap.size w w' := by
  by_cases h1 : a = c <;> by_cases h2 : b = d
  all_goals
    go_enter Try.func55, Try.ntmps55
    go_wp2
    all_goals first | (exfalso; simp_all; done) | skip
    all_goals go_returns
    all_goals refine ⟨by simp [h1, h2], ?_⟩
    all_goals go_grown

set_option maxRecDepth 100000 in
theorem eqTermS_calls (A B : Option Addr) (n m c d : Nat) (l r : List (Int × Int)) (w : World) (lo hi lo' hi' : Nat) (h : SlT w lo hi A n l) (g : SlT w lo' hi' B m r) (hn : n ≤ maxLen) (hm : m ≤ maxLen) :
    Calls Try.prog 16 #[.slice A n c, .slice B m d] w fun e w' => e = .returned (.bool (decide (l = r))) ∧ Below w.heap.size w w' := by
  unfold maxLen at hn hm
  have hl := hide h.len
  have hr := hide g.len
  by_cases hnm : n = m
  · subst hnm
    go_enter Try.func16, Try.ntmps16
    go_wp2
    go_loopw [5] (fun i wr => ∃ k : Nat, k ≤ n ∧ i = .int .i64 k ∧ Below w.heap.size w wr ∧ l.take k = r.take k) (fun i _ => n - (intOf i).toNat)
    case atStart => exact ⟨0, Nat.zero_le _, rfl, (Below.refl _ _), rfl⟩
    case round =>
      obtain ⟨k, hk, rfl, hb, he⟩ := hrel
      replace he := hide he
      by_cases hlt : k < n
      · obtain ⟨b, off, x1, x2, rfl, g1, g2, g3, hx, c0, c1, -, -⟩ := h.get hlt
        obtain ⟨b', off', y1, y2, rfl, g1', g2', g3', hy, d0, d1, -, -⟩ := g.get hlt
        replace c0 := (hb.cell g3).trans c0
        replace c1 := (hb.cell (p := ⟨b, off + k * 2 + 1, none⟩) g3).trans c1
        replace d0 := (hb.cell g3').trans d0
        replace d1 := (hb.cell (p := ⟨b', off' + k * 2 + 1, none⟩) g3').trans d1
        replace hx := hide hx
        replace hy := hide hy
        clear h g
        by_cases hxy : (decide (x1 = y1) && decide (x2 = y2)) = true
        · have hq := eqTerm_calls x1 x2 y1 y2 wr.drew
          rw [hxy] at hq
          replace hq := hide hq
          go_wp2
          go_still_tail 8, (by kernel_rfl)
          change wpList _ _ _ _ _ wr.drew
          go_wp2_with (go_at_call 55; refine hq.out.mono ?_; rintro e w1 ⟨rfl, hb1⟩)
          go_roundw
          case rel => exact ⟨k + 1, by omega, by go_num, hb.drew.trans (hb1.mono hb.size), take_step he.out hx.out hy.out (pair_eq hxy)⟩
          case measure => simp [intOf]; omega
        · replace hxy := Bool.eq_false_iff.2 hxy
          have hq := eqTerm_calls x1 x2 y1 y2 wr.drew
          rw [hxy] at hq
          replace hq := hide hq
          have hne := hide (take_stop hx.out hy.out (pair_ne hxy))
          go_wp2
          go_still_tail 8, (by kernel_rfl)
          change wpList _ _ _ _ _ wr.drew
          go_wp2_with (go_at_call 55; refine hq.out.mono ?_; rintro e w1 ⟨rfl, hb1⟩)
          go_ret
          exact ⟨by simp [hne.out], hb.drew.trans (hb1.mono hb.size)⟩
      · have hkn : k = n := by omega
        subst hkn
        go_wp2
        go_ret
        exact ⟨by rw [take_all he.out hl.out hr.out]; simp, hb⟩
  · have hne : Hid (l ≠ r) := fun e => hnm (by rw [← hl.out, ← hr.out, e])
    have hb0 : ((n : Int) != (m : Int)) = true := by rw [bne_iff_ne]; omega
    go_enter Try.func16, Try.ntmps16
    go_wp2
    go_ret
    exact ⟨by simp [hne.out], Below.refl _ _⟩

end Go.Proofs.Ytdjhpdmpibokhaa
