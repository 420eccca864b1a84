/-
  The laws' helpers on lists of lists of terms: sizes, copying, comparing, marking. Conditions: at most 1048576 elements.
-/
import Derived.Test.YtdjhpdmpibokhaaBoilT
import Derived.Test.YtdjhpdmpibokhaaBoilM
import Derived.Test.YtdjhpdmpibokhaaNestG
namespace Go.Proofs.Ytdjhpdmpibokhaa
open Go.ChangeShapes Go.WideShapes Go.ChangeAt Go.RowKit
set_option linter.unusedVariables false

/-- What a size helper leaves. -/
def szLeft (left : Int) (tot : Nat) : Int := if left < tot then -1 else left - tot
theorem szLeft_big {left : Int} {tot : Nat} (h : left < tot) : szLeft left tot = -1 := if_pos h
theorem szLeft_fits {left : Int} {tot : Nat} (h : ¬ left < tot) : szLeft left tot = left - tot := if_neg h

abbrev RowsT (most : Nat) := RowsG (id : Hd → Hd) 1 sv 2 tv most
abbrev NestT := NestG (id : Hd → Hd) 1 sv 2 tv

theorem RowsG.atT {most : Nat} {w : World} {lo hi n k : Nat} {A : Option Addr} {R : List (Hd × List (Int × Int))} (h : RowsT most w lo hi A n R) (hk : k < n) :
    ∃ b off Ah nh ch s, A = some ⟨b, off, none⟩ ∧ lo ≤ b ∧ b < hi ∧ b < w.heap.size ∧ R[k]? = some ((Ah, nh, ch), s) ∧ w.cell? ⟨b, off + k, none⟩ = some (.slice Ah nh ch) ∧ SlT w lo hi Ah nh s ∧ nh ≤ most := by
  obtain ⟨b, off, ⟨Ah, nh, ch⟩, s, e, g1, g2, g3, hr, hc, hs, hn⟩ := h.get hk
  have h0 := (hc 0 _ rfl).1
  simp only [Nat.mul_one, Nat.add_zero] at h0
  exact ⟨b, off, Ah, nh, ch, s, e, g1, g2, g3, hr, h0, hs, hn⟩

theorem szTermSS_calls (A : Option Addr) (n c : Nat) (R : List (Hd × List (Int × Int))) (left : Int) (w : World) (lo hi : Nat) (h : RowsT maxLen w lo hi A n R) (hn : n ≤ maxLen) (h0 : 0 ≤ left) (h1 : left ≤ 1048576) :
    Calls Try.prog 25 #[.slice A n c, .int .i64 left] w fun e w' => e = .returned (.int .i64 (szLeft left (n + preG id R n))) ∧ w = w' := by
  have hn' : n ≤ 9223372036854775807 := by unfold maxLen at hn; omega
  by_cases hb : left < n
  · clear h
    go_enter Try.func25, Try.ntmps25
    go_wp2
    go_ret
    exact ⟨by rw [szLeft_big (by omega)]; rfl, rfl⟩
  · go_enter Try.func25, Try.ntmps25
    go_wp2
    go_loop [1, 5] (fun s i => ∃ k : Nat, k ≤ n ∧ i = .int .i64 k ∧ s = .int .i64 (left - (n + preG id R k : Nat)) ∧ ((n + preG id R k : Nat) : Int) ≤ left) (fun _ i => n - (intOf i).toNat)
    case atStart => exact ⟨0, Nat.zero_le _, rfl, by rw [preG_zero]; go_num, by rw [preG_zero]; omega⟩
    case round =>
      obtain ⟨k, hk, rfl, rfl, hle⟩ := hrel
      by_cases hlt : k < n
      · obtain ⟨b, off, Ah, nh, ch, s, rfl, g1, g2, g3, hx, c0, hs, hnh⟩ := h.atT hlt
        have hpre : preG id R (k + 1) = preG id R k + nh := preG_succ (hd := id) hx
        have hmono := preG_mono id R (show k + 1 ≤ n by omega)
        have hq := szTermS_calls Ah nh ch (left - (n + preG id R k : Nat)) w hnh (by omega) (by omega)
        clear h hs hx
        generalize hpk : preG id R k = pk at *
        rw [hpre] at hmono
        by_cases hbig : left - (n + pk : Nat) < nh
        · rw [if_pos hbig] at hq
          replace hq := hide hq
          go_wp2_with (go_at_call 12; refine hq.out.mono ?_; rintro e w1 ⟨rfl, rfl⟩)
          go_ret
          exact ⟨by rw [szLeft_big (by omega)]; rfl, rfl⟩
        · rw [if_neg hbig] at hq
          replace hq := hide hq
          go_wp2_with (go_at_call 12; refine hq.out.mono ?_; rintro e w1 ⟨rfl, rfl⟩)
          go_round
          case rel => exact ⟨k + 1, by omega, by go_num, by rw [hpre]; go_num, by omega⟩
          case measure => simp [intOf]; omega
      · have hkn : k = n := by omega
        subst hkn
        clear h
        go_wp2
        go_ret
        exact ⟨by rw [szLeft_fits (by omega)]; exact ret_i (by omega), rfl⟩

theorem info_rowT : (Try.prog.info? 25).map (fun i => (i.zero, i.size, i.bytes)) = some (some (.slice none 0 0), 1, 24) := by kernel_rfl

theorem toTermSS_calls (A : Option Addr) (n c : Nat) (R : List (Hd × List (Int × Int))) (w : World) (lo hi : Nat) (h : RowsT 1048576 w lo hi A n R) (hn : n ≤ 1048576) :
    Calls Try.prog 27 #[.slice A n c] w fun e w' => ∃ A', e = .returned (.slice A' n n) ∧ Below w.heap.size w w' ∧ ∃ R', NestT w' w.heap.size w'.heap.size A' n R' ∧ R'.map (·.2) = R.map (·.2) := by
  obtain ⟨i0, hi0, hz0, hz1, hz2⟩ := info_parts info_rowT
  have hmk := fun W => make_row (P := Try.prog) 39 25 i0 _ _ n Try.underlying39 hi0 hz0 hz1 (by rw [hz2]; omega) (by omega) W
  clear hi0 hz0 hz1 hz2
  have hlen := hide h.len
  replace h := hide h
  go_enter Try.func27, Try.ntmps27
  go_wp2
  go_loopw [4] (fun i wr => ∃ k : Nat, k ≤ n ∧ i = .int .i64 k ∧ Below w.heap.size w wr ∧ ∃ R', NestF (id : Hd → Hd) 1 sv 2 tv wr w.heap.size 25 n k R' ∧ R'.map (·.2) = (R.map (·.2)).take k) (fun i _ => n - (intOf i).toNat)
  case atStart => exact ⟨0, Nat.zero_le _, rfl, (Below.refl _ _).alloc (Nat.le_refl _) _, [], NestF.start _ _ _ _ (by simp [madeCells]), rfl⟩
  case round =>
    obtain ⟨k, hk, rfl, hb, R', hf, he⟩ := hrel
    clear hmk
    replace hf := hide hf
    replace he := hide he
    by_cases hlt : k < n
    · obtain ⟨b, off, Ah, nh, ch, s, rfl, g1, g2, g3, hx, c0, hs, hnh⟩ := (h.out.below hb (.inr (Nat.le_refl _))).atT hlt
      have hx2 := hide (show (R.map (·.2))[k]? = some s by rw [List.getElem?_map, hx]; rfl)
      have hq := hide (toTermS_calls Ah nh ch s wr _ _ hs hnh)
      have hlen2 := hide hf.out.len
      have hzB := hf.out.fill.lt
      clear hx hs h
      go_wp2_with (first | (go_at_call 14; refine hq.out.mono ?_; rintro e w1 ⟨A2, rfl, hb1, hs1⟩; have hf1 := hf.out.fill.keep (hb1.block _ hzB); obtain ⟨v0, d0⟩ := hf1.cell (i := k) (by omega); have z0 := hf1.frozen k; replace hf1 := hide hf1; replace hs1 := hide hs1))
      go_roundw
      case rel =>
        have hz1 := hb1.size
        refine ⟨k + 1, by omega, by go_num, (hb.trans (hb1.mono hb.size)).setCell (Nat.le_refl _) _, R' ++ [((A2, nh, nh), s)], hf.out.push hb1 hs1.out hnh ((Only.refl w.heap.size (w.heap.size + 1) w1).setCell (p := ⟨w.heap.size, k, none⟩) (Nat.le_refl _) (Nat.lt_succ_self _) _) ((hf1.out.of_take ?_).set1 hlt (fun _ => rfl) (x := (A2, nh, nh)) ?_ rfl), ?_⟩
        · rw [List.take_append_of_le_length (by rw [List.length_map, hlen2.out]; exact Nat.le_refl _)]
        · rw [List.getElem?_append_right (by rw [List.length_map, hlen2.out]; exact Nat.le_refl _), List.length_map, hlen2.out]; simp
        · rw [List.map_append, he.out, List.take_add_one, hx2.out]; rfl
      case measure => simp [intOf]; omega
    · have : k = n := by omega
      subst this
      clear h
      go_wp2
      go_ret
      exact ⟨_, rfl, hb, R', hf.out.done, by rw [he.out, List.take_of_length_le (by rw [List.length_map, hlen.out]; exact Nat.le_refl _)]⟩

set_option maxHeartbeats 800000 in
set_option maxRecDepth 100000 in
theorem eqTermSS_calls (A B : Option Addr) (n m c d : Nat) (R S : List (Hd × List (Int × Int))) (w : World) (lo hi lo' hi' : Nat) (h : RowsT 1048576 w lo hi A n R) (g : RowsT 1048576 w lo' hi' B m S) (hn : n ≤ 1048576) (hm : m ≤ 1048576) :
    Calls Try.prog 29 #[.slice A n c, .slice B m d] w fun e w' => e = .returned (.bool (decide (R.map (·.2) = S.map (·.2)))) ∧ Below w.heap.size w w' := by
  have hl := hide h.len
  have hr := hide g.len
  by_cases hnm : n = m
  · subst hnm
    replace h := hide h
    replace g := hide g
    go_enter Try.func29, Try.ntmps29
    go_wp2
    go_loopw [5] (fun i wr => ∃ k : Nat, k ≤ n ∧ i = .int .i64 k ∧ Below w.heap.size w wr ∧ (R.map (·.2)).take k = (S.map (·.2)).take k) (fun i _ => n - (intOf i).toNat)
    case atStart => exact ⟨0, Nat.zero_le _, rfl, (Below.refl _ _), rfl⟩
    case round =>
      obtain ⟨k, hk, rfl, hb, he⟩ := hrel
      replace he := hide he
      by_cases hlt : k < n
      · obtain ⟨b, off, Ah, nh, ch, s, rfl, g1, g2, g3, hx, c0, hs, hnh⟩ := (h.out.below hb (.inr (Nat.le_refl _))).atT hlt
        obtain ⟨b', off', Ah', nh', ch', s', rfl, g1', g2', g3', hy, d0, hs', hnh'⟩ := (g.out.below hb (.inr (Nat.le_refl _))).atT hlt
        have hx2 := hide (show (R.map (·.2))[k]? = some s by rw [List.getElem?_map, hx]; rfl)
        have hy2 := hide (show (S.map (·.2))[k]? = some s' by rw [List.getElem?_map, hy]; rfl)
        have hq := eqTermS_calls Ah Ah' nh nh' ch ch' s s' wr.drew _ _ _ _ (hs.drewN 1) (hs'.drewN 1) (by unfold maxLen; omega) (by unfold maxLen; omega)
        clear h g hx hy hs hs'
        have hk0 : (0 : Int) ≤ (k : Int) := by omega
        have hk1 : (k : Int) < (n : Int) := by omega
        by_cases hxy : s = s'
        · subst hxy
          rw [decide_eq_true rfl] at hq
          replace hq := hide hq
          go_wp2
          go_still_tail 8, (by kernel_rfl)
          change wpList _ _ _ _ _ wr.drew
          go_wp2_with (go_at_call 16; refine hq.out.mono ?_; rintro e w1 ⟨rfl, hb1⟩)
          go_roundw
          case rel => exact ⟨k + 1, by omega, by go_num, hb.drew.trans (hb1.mono hb.size), take_step he.out hx2.out hy2.out rfl⟩
          case measure => simp [intOf]; omega
        · rw [decide_eq_false hxy] at hq
          replace hq := hide hq
          have hne := hide (take_stop hx2.out hy2.out hxy)
          clear hxy
          go_wp2
          go_still_tail 8, (by kernel_rfl)
          change wpList _ _ _ _ _ wr.drew
          go_wp2_with (go_at_call 16; refine hq.out.mono ?_; rintro e w1 ⟨rfl, hb1⟩)
          go_ret
          exact ⟨by rw [decide_eq_false hne.out]; rfl, hb.drew.trans (hb1.mono hb.size)⟩
      · have hkn : k = n := by omega
        subst hkn
        go_wp2
        go_ret
        exact ⟨by rw [take_all he.out (by rw [List.length_map]; exact hl.out) (by rw [List.length_map]; exact hr.out)]; simp, hb⟩
  · have hne : Hid (R.map (·.2) ≠ S.map (·.2)) := fun e => hnm (by rw [← hl.out, ← hr.out]; have := congrArg List.length e; simpa using this)
    have hb0 : ((n : Int) != (m : Int)) = true := by rw [bne_iff_ne]; omega
    clear h g
    go_enter Try.func29, Try.ntmps29
    go_wp2
    go_ret
    exact ⟨by rw [decide_eq_false hne.out]; rfl, Below.refl _ _⟩

set_option maxHeartbeats 800000 in
theorem markTermSS_calls (A : Option Addr) (n c : Nat) (R : List (Hd × List (Int × Int))) (m : Int) (w : World) (lo hi : Nat) (h : NestT w lo hi A n R) (hn : n ≤ 1048576) (h0 : 0 ≤ m) (h1 : m + 2 * (preG id R n : Int) ≤ 1099511627776) :
    Calls Try.prog 30 #[.slice A n c, .int .i64 m] w fun e w' => e = .returned (.int .i64 (m + 2 * (preG id R n : Int))) ∧ ∃ R', R'.map (·.1) = R.map (·.1) ∧ NestT w' lo hi A n R' ∧ Only lo hi w w' := by
  go_enter Try.func30, Try.ntmps30
  go_wp2
  go_loopw [1, 5] (fun s i wr => ∃ k : Nat, k ≤ n ∧ i = .int .i64 k ∧ s = .int .i64 (m + 2 * (preG id R k : Int)) ∧ ∃ R', R'.map (·.1) = R.map (·.1) ∧ NestT wr lo hi A n R' ∧ Only lo hi w wr) (fun _ i _ => n - (intOf i).toNat)
  case atStart => exact ⟨0, Nat.zero_le _, rfl, by rw [preG_zero]; go_num, R, rfl, h, Only.refl _ _ _⟩
  case round =>
    obtain ⟨k, hk, rfl, rfl, R', hR, hs, ho⟩ := hrel
    have hlR := h.len
    clear h
    have hmono := preG_mono id R hk
    by_cases hlt : k < n
    · obtain ⟨b, off, Ah, nh, ch, s, rfl, g1, g2, g3, hx, c0, hx2, hnh⟩ := hs.all.atT hlt
      have hpre : preG id R (k + 1) = preG id R k + nh := by
        have h2 : (R.map (·.1))[k]? = some (Ah, nh, ch) := by rw [← hR, List.getElem?_map, hx]; rfl
        rw [List.getElem?_map] at h2
        obtain ⟨⟨q, t⟩, hq1, hq2⟩ := Option.map_eq_some_iff.1 h2
        cases hq2
        exact preG_succ (hd := id) hq1
      have hq := hide (markTermS_calls Ah nh ch s (m + 2 * (preG id R k : Int)) wr _ _ (hx2.tight ch) hnh (by omega) (by omega))
      clear hx2
      replace hx := hide hx
      replace hs := hide hs
      replace hR := hide hR
      generalize hpk : preG id R k = pk at *
      go_wp2_with (go_at_call 19; refine hq.out.mono ?_; rintro e w1 ⟨rfl, hs1, ho1⟩)
      obtain ⟨hput, ho2⟩ := hs.out.put hx.out ho1 hs1
      go_roundw
      case rel => exact ⟨k + 1, by omega, by go_num, by rw [hpre]; go_num, _, (handles_set hx.out).trans hR.out, hput, ho.trans ho2⟩
      case measure => simp [intOf]; omega
    · have hkn : k = n := by omega
      subst hkn
      go_wp2
      go_ret
      exact ⟨rfl, R', hR, hs, ho⟩

end Go.Proofs.Ytdjhpdmpibokhaa
