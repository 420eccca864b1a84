/-
  The laws' helpers on lists of lists of int64: comparing, marking, asking for the marks. Conditions: marks below 2^40.
-/
import Derived.Test.YtdjhpdmpibokhaaBoilI
import Derived.Test.YtdjhpdmpibokhaaNest
import Derived.StillTailTactics
namespace Go.Proofs.Ytdjhpdmpibokhaa
open Go.ChangeShapes Go.WideShapes Go.ChangeAt Go.RowKit
set_option linter.unusedVariables false

abbrev NestI := Nest 1 iv

set_option maxHeartbeats 800000 in
set_option maxRecDepth 100000 in
theorem eqInt64SS_calls (A B : Option Addr) (n m c d : Nat) (R S : List (Hd × List Int)) (w : World) (lo hi lo' hi' : Nat) (h : NestI w lo hi A n R) (g : NestI w lo' hi' B m S) (hn : n ≤ 1048576) (hm : m ≤ 1048576) :
    Calls Try.prog 41 #[.slice A n c, .slice B m d] w fun e w' => e = .returned (.bool (decide (R.map (·.2) = S.map (·.2)))) ∧ Below w.heap.size w w' := by
  have hl := hide h.len
  have hr := hide g.len
  by_cases hnm : n = m
  · subst hnm
    replace h := hide h
    replace g := hide g
    go_enter Try.func41, Try.ntmps41
    go_wp2
    go_loopw [5] (fun i wr => ∃ k : Nat, k ≤ n ∧ i = .int .i64 k ∧ Below w.heap.size w wr ∧ (R.map (·.2)).take k = (S.map (·.2)).take k) (fun i _ => n - (intOf i).toNat)
    case atStart => exact ⟨0, Nat.zero_le _, rfl, (Below.refl _ _), rfl⟩
    case round =>
      obtain ⟨k, hk, rfl, hb, he⟩ := hrel
      replace he := hide he
      by_cases hlt : k < n
      · obtain ⟨b, off, Ah, nh, ch, s, rfl, g1, g2, g3, hx, c0, -, hs, hnh⟩ := (h.out.below hb (.inr (Nat.le_refl _))).get hlt
        obtain ⟨b', off', Ah', nh', ch', s', rfl, g1', g2', g3', hy, d0, -, hs', hnh'⟩ := (g.out.below hb (.inr (Nat.le_refl _))).get hlt
        have hx2 := hide (show (R.map (·.2))[k]? = some s by rw [List.getElem?_map, hx]; rfl)
        have hy2 := hide (show (S.map (·.2))[k]? = some s' by rw [List.getElem?_map, hy]; rfl)
        have hq := eqInt64S_calls Ah Ah' nh nh' ch ch' s s' wr.drew _ _ _ _ (hs.drewN 1) (hs'.drewN 1) (by unfold maxLen; omega) (by unfold maxLen; omega)
        clear h g hx hy hs hs'
        have hk0 : (0 : Int) ≤ (k : Int) := by omega
        have hk1 : (k : Int) < (n : Int) := by omega
        by_cases hxy : s = s'
        · subst hxy
          rw [decide_eq_true rfl] at hq
          replace hq := hide hq
          go_wp2
          go_still_tail 8, (by kernel_rfl)
          change wpList _ _ _ _ _ wr.drew
          go_wp2_with (go_at_call 34; refine hq.out.mono ?_; rintro e w1 ⟨rfl, hb1⟩)
          go_roundw
          case rel => exact ⟨k + 1, by omega, by go_num, hb.drew.trans (hb1.mono hb.size), take_step he.out hx2.out hy2.out rfl⟩
          case measure => simp [intOf]; omega
        · rw [decide_eq_false hxy] at hq
          replace hq := hide hq
          have hne := hide (take_stop hx2.out hy2.out hxy)
          clear hxy
          go_wp2
          go_still_tail 8, (by kernel_rfl)
          change wpList _ _ _ _ _ wr.drew
          go_wp2_with (go_at_call 34; refine hq.out.mono ?_; rintro e w1 ⟨rfl, hb1⟩)
          go_ret
          exact ⟨by rw [decide_eq_false hne.out]; rfl, hb.drew.trans (hb1.mono hb.size)⟩
      · have hkn : k = n := by omega
        subst hkn
        go_wp2
        go_ret
        exact ⟨by rw [take_all he.out (by rw [List.length_map]; exact hl.out) (by rw [List.length_map]; exact hr.out)]; simp, hb⟩
  · have hne : Hid (R.map (·.2) ≠ S.map (·.2)) := fun e => hnm (by rw [← hl.out, ← hr.out]; have := congrArg List.length e; simpa using this)
    have hb0 : ((n : Int) != (m : Int)) = true := by rw [bne_iff_ne]; omega
    clear h g
    go_enter Try.func41, Try.ntmps41
    go_wp2
    go_ret
    exact ⟨by rw [decide_eq_false hne.out]; rfl, Below.refl _ _⟩

set_option maxHeartbeats 800000 in
theorem markInt64SS_calls (A : Option Addr) (n c : Nat) (R : List (Hd × List Int)) (m : Int) (w : World) (lo hi : Nat) (h : NestI w lo hi A n R) (hn : n ≤ 1048576) (h0 : 0 ≤ m) (h1 : m + (preH (R.map (·.1)) n : Int) ≤ 1099511627776) :
    Calls Try.prog 42 #[.slice A n c, .int .i64 m] w fun e w' => e = .returned (.int .i64 (m + (preH (R.map (·.1)) n : Int))) ∧ ∃ R', R'.map (·.1) = R.map (·.1) ∧ NestI w' lo hi A n R' ∧ MarkedK id 1 m n R' ∧ Only lo hi w w' := by
  go_enter Try.func42, Try.ntmps42
  go_wp2
  go_loopw [1, 5] (fun s i wr => ∃ k : Nat, k ≤ n ∧ i = .int .i64 k ∧ s = .int .i64 (m + (preH (R.map (·.1)) k : Int)) ∧ ∃ R', R'.map (·.1) = R.map (·.1) ∧ NestI wr lo hi A n R' ∧ MarkedK id 1 m k R' ∧ Only lo hi w wr) (fun _ i _ => n - (intOf i).toNat)
  case atStart => exact ⟨0, Nat.zero_le _, rfl, by rw [preH_zero]; go_num, R, rfl, h, MarkedK.zero _ _ _ _, Only.refl _ _ _⟩
  case round =>
    obtain ⟨k, hk, rfl, rfl, R', hR, hs, hm, ho⟩ := hrel
    clear h
    have hmono := preH_mono (R.map (·.1)) hk
    by_cases hlt : k < n
    · obtain ⟨b, off, Ah, nh, ch, s, rfl, g1, g2, g3, hx, c0, -, hx2, hnh⟩ := hs.get hlt
      have hpre : preH (R.map (·.1)) (k + 1) = preH (R.map (·.1)) k + nh := preH_succ (c := ch) (by rw [← hR, List.getElem?_map, hx]; rfl)
      have hq := hide (markInt64S_calls Ah nh ch s (m + (preH (R.map (·.1)) k : Int)) wr _ _ (hx2.tight ch) hnh (by omega) (by omega))
      have hlen := hide hx2.len
      clear hx2
      replace hx := hide hx
      replace hs := hide hs
      replace hm := hide hm
      replace hR := hide hR
      generalize hpk : preH (R.map (·.1)) k = pk at *
      go_wp2_with (go_at_call 37; refine hq.out.mono ?_; rintro e w1 ⟨rfl, hs1, ho1⟩)
      obtain ⟨hput, ho2⟩ := hs.out.put hx.out ho1 hs1
      have hmk := hide (MarkedK.step hm.out (s' := markI (m + (pk : Int)) nh s) hx.out (fun j hj => by
        rw [markI_get _ _ _ j hj (by rw [hlen.out]; exact hj), hR.out, hpk]
        show some _ = some (m + _)
        congr 1
        omega))
      go_roundw
      case rel => exact ⟨k + 1, by omega, by go_num, by rw [hpre]; go_num, _, (handles_set hx.out).trans hR.out, hput, hmk.out, ⟨ho2.os.trans ho.os, ho2.tape.trans ho.tape, ho2.output.trans ho.output, Nat.le_trans ho.size ho2.size, fun b hb hc => (ho2.block b (Nat.lt_of_lt_of_le hb ho.size) hc).trans (ho.block b hb hc)⟩⟩
      case measure => simp [intOf]; omega
    · have hkn : k = n := by omega
      subst hkn
      go_wp2
      go_ret
      exact ⟨rfl, R', hR, hs, hm, ho⟩

set_option maxHeartbeats 800000 in
theorem heldInt64SS_calls (A : Option Addr) (n c : Nat) (R : List (Hd × List Int)) (m : Int) (w : World) (lo hi : Nat) (h : NestI w lo hi A n R) (hn : n ≤ 1048576) (h0 : 0 ≤ m) (h1 : m + (preH (R.map (·.1)) n : Int) ≤ 1099511627776)
    (hl : MarkedK id 1 m n R) :
    Calls Try.prog 43 #[.slice A n c, .int .i64 m] w fun e w' => e = .returned (.int .i64 (m + (preH (R.map (·.1)) n : Int))) ∧ w = w' := by
  replace hl := hide hl
  go_enter Try.func43, Try.ntmps43
  go_wp2
  go_loop [1, 5] (fun s i => ∃ k : Nat, k ≤ n ∧ i = .int .i64 k ∧ s = .int .i64 (m + (preH (R.map (·.1)) k : Int))) (fun _ i => n - (intOf i).toNat)
  case atStart => exact ⟨0, Nat.zero_le _, rfl, by rw [preH_zero]; go_num⟩
  case round =>
    obtain ⟨k, hk, rfl, rfl⟩ := hrel
    have hmono := preH_mono (R.map (·.1)) hk
    by_cases hlt : k < n
    · obtain ⟨b, off, Ah, nh, ch, s, rfl, g1, g2, g3, hx, c0, -, hx2, hnh⟩ := h.get hlt
      have hpre : preH (R.map (·.1)) (k + 1) = preH (R.map (·.1)) k + nh := preH_succ (c := ch) (by rw [List.getElem?_map, hx]; rfl)
      have hq := hide (heldInt64S_calls Ah nh ch s (m + (preH (R.map (·.1)) k : Int)) w _ _ hx2 hnh (by omega) (by omega) (fun i hi => by
        rw [hl.out k _ hlt hx i hi]
        show some (m + _) = some _
        congr 1
        omega))
      clear h hx2
      replace hx := hide hx
      generalize hpk : preH (R.map (·.1)) k = pk at *
      go_wp2_with (go_at_call 38; refine hq.out.mono ?_; rintro e w1 ⟨rfl, rfl⟩)
      go_round
      case rel => exact ⟨k + 1, by omega, by go_num, by rw [hpre]; go_num⟩
      case measure => simp [intOf]; omega
    · have hkn : k = n := by omega
      subst hkn
      go_wp2
      go_ret
      exact ⟨rfl, rfl⟩

end Go.Proofs.Ytdjhpdmpibokhaa
