/-
  Conjunctions: slices.Clone, Grow, Concat on terms, the program's conjunction and the reference's. Conditions: at most 1048576 expressions of at most 1048576 terms.
-/
import Derived.Test.YtdjhpdmpibokhaaBoilTT
import Derived.Test.YtdjhpdmpibokhaaBounds2
import Derived.Lib.AppendZeros
import Derived.Deep.RegionLaw
namespace Go.Proofs.Ytdjhpdmpibokhaa
open Go.ChangeShapes Go.WideShapes Go.ChangeAt Go.RowKit
set_option linter.unusedVariables false

/-- The conjunction. -/
def conjF : List (List (Int × Int)) → List (Int × Int)
  | [] => [(0, 1)]
  | [x] => x
  | x :: y :: r => (2, 7) :: (x ++ conjF (y :: r))

theorem conjF_len (L : List (List (Int × Int))) (h : ∀ x ∈ L, x.length ≤ 1048576) : (conjF L).length ≤ 1 + L.length * 1048577 := by
  induction L with
  | nil => simp [conjF]
  | cons x r ih =>
    have hx := h x (by simp)
    cases r with
    | nil => simp [conjF]; omega
    | cons y r =>
      have := ih fun z hz => h z (by simp at hz ⊢; right; exact hz)
      simp [conjF] at this ⊢
      omega

theorem cloneT_calls (A : Option Addr) (n c : Nat) (l : List (Int × Int)) (w : World) (lo hi : Nat) (h : SlT w lo hi A n l) (hn : n ≤ 1048576) :
    Calls Try.prog 99 #[.slice A n c] w fun e w' => ∃ A' c', e = .returned (.slice A' n c') ∧ SlT w' w.heap.size w'.heap.size A' n l ∧ Below w.heap.size w w' := by
  have hnil : ∀ (W : World) (a : Option Addr) (m d : Nat), (binOp .eql 25 (.slice a m d) (.slice none 0 0)).run Try.prog W = .ok (.bool a.isNone) W := fun W a m d => Lib.run_eql_slice_nil W 25 _ a m d 0 0 Try.underlying25
  have hE := hide elem_implTerm
  cases A with
  | none =>
    have hn0 : n = 0 := by
      rcases Nat.eq_zero_or_pos n with h0 | h0
      · exact h0
      · obtain ⟨b, off, e, _⟩ := h.at_ h0
        cases e
    subst hn0
    have hl := List.eq_nil_of_length_eq_zero h.len
    subst hl
    go_enter Try.func99, Try.ntmps99
    go_wp2_with fail
    go_ret
    exact ⟨none, 0, rfl, Sl.nil_, Below.refl _ _⟩
  | some a =>
    have hs := hide (h.below ((Below.refl w.heap.size w).alloc (Nat.le_refl _) (.cells #[] 72)) (.inr (Nat.le_refl _)))
    have hz : w.heap.size ≤ (w.alloc (.cells #[] 72)).heap.size := by simp
    clear h
    go_enter Try.func99, Try.ntmps99
    go_wp2_with (first | (at_builtin; (with_reducible refine wpList_app rfl (.tmp 5) (.tmp 6) rfl hE.out flat_tv rfl (Own.made w 72 (Nat.le_refl _)) rfl hs.out ?c1 hz ?_); rotate_right; intro A2 c2 w2 hown2 hgr2 hb2 _))
    case c1 => omega
    go_ret
    rw [Nat.zero_add, List.nil_append] at hown2
    exact ⟨_, _, rfl, hown2.sl flat_tv, ((Below.refl _ _).alloc (Nat.le_refl _) _).trans hb2⟩

set_option maxRecDepth 100000 in
/-- slices.Grow on nil: a row of the call's own, still empty. -/
theorem growT_calls (k : Nat) (w : World) (hk : k ≤ 8796093022208) :
    Calls Try.prog 119 #[.slice none 0 0, .int .i64 (k : Int)] w fun e w' => ∃ A c, e = .returned (.slice A 0 c) ∧ Own 2 tv w' w.heap.size 72 A 0 c ([] : List (Int × Int)) ∧ Below w.heap.size w w' := by
  rcases Nat.eq_zero_or_pos k with rfl | h0
  · go_enter Try.func119, Try.ntmps119
    go_wp2_with fail
    go_ret
    exact ⟨none, 0, rfl, Own.nil_ _ _ _, Below.refl _ _⟩
  · obtain ⟨i, hi, hz, hs, hby⟩ := info_parts info_implTerm
    have hcut : ∀ (W : World) (A : Option Addr) (n c : Nat), (Instr.slice 25 (.slice A n c) none (some (.int .i64 0)) none).run Try.prog W = .ok (.slice A 0 c) W := fun W A n c => run_head elem_implTerm A n c 0 (Nat.zero_le _) W
    have hrun := fun ty => Lib.run_append_nil_zeros (P := Try.prog) w 25 3 ty 72 i _ .i64 .i64 Try.underlying25 Try.underlying3 hi hz k h0 (by rw [hs]; omega) (by omega) (by rw [hby]; omega)
    have hg1 := grownCap_ge w k 0 72
    have hg2 := grownCap_le_maxLen w k 0 72 (by unfold maxLen; omega)
    generalize grownCap w k 0 72 = G at *
    unfold maxLen at hg2
    have hrun := hide hrun
    have hsz : Hid ((Builtin.zeroCells #[.int .i64 0, .int .i64 0] k ++ Builtin.zeroCells #[.int .i64 0, .int .i64 0] (G - k)).size = G * 2) := by show _ = _; rw [Array.size_append, size_zeroCells, size_zeroCells, ← Nat.add_mul]; show (k + (G - k)) * 2 = G * 2; congr 1; omega
    have q1 : ¬ ((k : Int) < 0) := by omega
    have q2 : (0 : Int) < (k : Int) := by omega
    clear hi hz hs hby
    go_enter Try.func119, Try.ntmps119
    go_wp2_with (first | (at_builtin; (with_reducible refine Lib.wpList_append_run _ rfl (.tmp 20) (.tmp 21) _ _ rfl _ _ rfl rfl _ _ (hrun.out _) ?_)))
    all_goals go_ret
    all_goals exact ⟨_, _, rfl, ⟨rfl, World.ownsRow_made w.drew _ _ (Nat.le_refl _) (by unfold maxLen; omega) hsz.out⟩, (Below.refl _ _).drew.alloc (Nat.le_refl _) _⟩

set_option maxHeartbeats 800000 in
theorem concatT_calls (A : Option Addr) (n c : Nat) (R : List (Hd × List (Int × Int))) (most : Nat) (w : World) (lo hi : Nat) (h : RowsT most w lo hi A n R) (hn : n ≤ 1048576) (ht : preG id R n ≤ 4398046511104) :
    Calls Try.prog 100 #[.slice A n c] w fun e w' => ∃ A' c', e = .returned (.slice A' (preG id R n) c') ∧ SlT w' w.heap.size w'.heap.size A' (preG id R n) ((R.map (·.2)).flatten) ∧ Below w.heap.size w w' := by
  have hlen := hide h.len
  have hE := hide elem_implTerm
  have hmon := fun k (hk : k ≤ n) => preG_mono id R hk
  replace hmon := hide hmon
  have hgrow := hide (growT_calls (preG id R n) w (by omega))
  replace h := hide h
  go_enter Try.func100, Try.ntmps100
  go_wp2
  go_loop [3, 11] (fun s i => ∃ k : Nat, k ≤ n ∧ i = .int .i64 k ∧ s = .int .i64 (preG id R k : Nat)) (fun _ i => n - (intOf i).toNat)
  case atStart => exact ⟨0, Nat.zero_le _, rfl, by rw [preG_zero]; rfl⟩
  case round =>
    obtain ⟨k, hk, rfl, rfl⟩ := hrel
    have hmk := hmon.out k hk
    by_cases hlt : k < n
    · obtain ⟨b, off, Ah, nh, ch, s, rfl, g1, g2, g3, hx, c0, hs, hnh⟩ := h.out.atT hlt
      have hpre : preG id R (k + 1) = preG id R k + nh := preG_succ (hd := id) hx
      have hmk1 := hmon.out (k + 1) (by omega)
      clear hx hs h hgrow
      generalize hpk : preG id R k = pk at *
      go_wp2
      go_round
      case rel => exact ⟨k + 1, by omega, by go_num, by rw [hpre]; go_num⟩
      case measure => simp [intOf]; omega
    · have hkn : k = n := by omega
      subst hkn
      clear hmk
      go_wp2_with (go_at_call 119; refine hgrow.out.mono ?_; rintro e w1 ⟨A1, c1, rfl, hown1, hb1⟩; replace hown1 := hide hown1)
      go_loopw [6, 27] (fun v i wr => ∃ (j : Nat) (A2 : Option Addr) (c2 : Nat), j ≤ k ∧ i = .int .i64 j ∧ v = .slice A2 (preG id R j) c2 ∧ Own 2 tv wr w.heap.size 72 A2 (preG id R j) c2 (((R.map (·.2)).take j).flatten) ∧ Below w.heap.size w wr) (fun _ i _ => k - (intOf i).toNat)
      case atStart => exact ⟨0, A1, c1, Nat.zero_le _, rfl, rfl, hown1.out, hb1⟩
      case round =>
        obtain ⟨j, A2, c2, hj, rfl, rfl, hown2, hb⟩ := hrel
        replace hown2 := hide hown2
        clear hown1 hb1
        by_cases hjt : j < k
        · obtain ⟨b, off, Ah, nh, ch, s, rfl, g1, g2, g3, hx, c0, hs, hnh⟩ := (h.out.below hb (.inr (Nat.le_refl _))).atT hjt
          have hpre : preG id R (j + 1) = preG id R j + nh := preG_succ (hd := id) hx
          have hmj1 := hmon.out (j + 1) (by omega)
          have hfl := hide (show ((R.map (·.2)).take (j + 1)).flatten = ((R.map (·.2)).take j).flatten ++ s by rw [List.take_add_one, List.getElem?_map, hx]; simp)
          have hs := hide hs
          have hz := hb.size
          clear hx h
          go_wp2_with (first | (at_builtin; (with_reducible refine wpList_app rfl (.tmp 31) (.tmp 32) rfl hE.out flat_tv rfl hown2.out rfl hs.out ?c1 hz ?_); rotate_right; intro A5 c5 w5 hown5 hgr5 hb5 _))
          case c1 => omega
          go_roundw
          case rel => exact ⟨j + 1, A5, c5, by omega, by go_num, by rw [hpre], by rw [hpre, hfl.out]; exact hown5, hb.trans hb5⟩
          case measure => simp [intOf]; omega
        · have hjk : j = k := by omega
          subst hjk
          clear h
          go_wp2
          go_ret
          refine ⟨A2, c2, rfl, ?_, hb⟩
          have := hown2.out.sl flat_tv
          rwa [List.take_of_length_le (by rw [List.length_map, hlen.out]; exact Nat.le_refl _)] at this

/-- How far the reference's list has come. -/
def conjInv (L : List (List (Int × Int))) (k : Nat) (out : List (Int × Int)) : Prop := if k < L.length then out ++ conjF (L.drop k) = conjF L else out = conjF L
theorem conjInv_step {L : List (List (Int × Int))} {k : Nat} {out s : List (Int × Int)} (h : conjInv L k out) (hx : L[k]? = some s) :
    conjInv L (k + 1) (if k + 1 < L.length then out ++ [(2, 7)] ++ s else out ++ s) := by
  have hk : k < L.length := (List.getElem?_eq_some_iff.1 hx).1
  unfold conjInv at h ⊢
  rw [if_pos hk] at h
  have hd : L.drop k = s :: L.drop (k + 1) := by
    rw [List.drop_eq_getElem_cons hk]
    congr 1
    exact (List.getElem?_eq_some_iff.1 hx).2
  by_cases h1 : k + 1 < L.length
  · rw [if_pos h1, if_pos h1, ← h, hd]
    have : L.drop (k + 1) = L[k + 1] :: L.drop (k + 2) := List.drop_eq_getElem_cons h1
    rw [this]
    simp [conjF]
  · rw [if_neg h1, if_neg h1, ← h, hd]
    have : L.drop (k + 1) = [] := List.drop_eq_nil_of_le (by omega)
    rw [this]
    simp [conjF]

set_option maxHeartbeats 1600000 in
set_option maxRecDepth 100000 in
theorem l03All_calls (A : Option Addr) (n c : Nat) (R : List (Hd × List (Int × Int))) (w : World) (lo hi : Nat) (h : RowsT 1048576 w lo hi A n R) (hn : n ≤ 1048576) :
    Calls Try.prog 66 #[.slice A n c] w fun e w' => ∃ A' m c', e = .returned (.slice A' m c') ∧ SlT w' w.heap.size w'.heap.size A' m (conjF (R.map (·.2))) ∧ Below w.heap.size w w' := by
  have hlen := hide h.len
  have hE := hide elem_implTerm
  rcases Nat.eq_zero_or_pos n with rfl | h0
  · have hR : R = [] := List.eq_nil_of_length_eq_zero hlen.out
    subst hR
    clear h
    go_enter Try.func66, Try.ntmps66
    go_wp2
    go_ret
    exact ⟨_, _, _, rfl, (Sl.lit1 w 72 (0, 1) _ rfl 2 _ (Nat.le_refl _)).more (Nat.le_refl _) (by simp), (Below.refl _ _).alloc (Nat.le_refl _) _⟩
  · have hL : Hid ((R.map (·.2)).length = n) := by show _ = _; rw [List.length_map, hlen.out]
    replace h := hide h
    have hnz : ((n : Int) == 0) = false := by rw [beq_eq_false_iff_ne]; omega
    go_enter Try.func66, Try.ntmps66
    go_wp2
    go_loopw [3, 4] (fun v i wr => ∃ k : Nat, k ≤ n ∧ i = .int .i64 k ∧ ∃ (A2 : Option Addr) (m c2 : Nat), v = .slice A2 m c2 ∧ ∃ out : List (Int × Int), Own 2 tv wr w.heap.size 72 A2 m c2 out ∧ conjInv (R.map (·.2)) k out ∧ m ≤ k * 1048577 ∧ Below w.heap.size w wr) (fun _ i _ => n - (intOf i).toNat)
    case atStart => exact ⟨0, Nat.zero_le _, rfl, _, 0, 0, rfl, [], Own.made w _ (Nat.le_refl _), by unfold conjInv; rw [if_pos (by rw [hL.out]; omega)]; rfl, Nat.zero_le _, (Below.refl _ _).alloc (Nat.le_refl _) _⟩
    case round =>
      obtain ⟨k, hk, rfl, A2, m, c2, rfl, out, hown2, hinv, hm, hb⟩ := hrel
      replace hown2 := hide hown2
      replace hinv := hide hinv
      by_cases hlt : k < n
      · obtain ⟨b, off, Ah, nh, ch, s, rfl, g1, g2, g3, hx, c00, hs, hnh⟩ := h.out.atT hlt
        have c0 := (hb.cell (p := ⟨b, off + k, none⟩) g3).trans c00
        replace c00 := hide c00
        have hx2 : (R.map (·.2))[k]? = some s := by rw [List.getElem?_map, hx]; rfl
        have hnext := conjInv_step hinv.out hx2
        rw [hL.out] at hnext
        have hs := hide hs
        have hz := hb.size
        have hkm : (k + 1) * 1048577 = k * 1048577 + 1048577 := by omega
        clear hx hx2 h
        by_cases h1 : k + 1 < n
        · have h1i : (k : Int) + 1 < (n : Int) := by omega
          rw [if_pos h1] at hnext
          replace hnext := hide hnext
          have hza : w.heap.size ≤ (wr.alloc (.cells #[.int .i64 2, .int .i64 7] 72)).heap.size := by simp; omega
          go_wp2_with (first
            | (at_builtin; (with_reducible refine wpList_app rfl (.tmp 22) (.tmp 24) rfl hE.out flat_tv rfl (hown2.out.alloc _) rfl (Sl.lit1' wr 72 (2, 7) _ rfl 2 _ ?c0) ?c1 hza ?_); rotate_right; intro A5 c5 w5 hown5 hgr5 hb5 _; have hb6 := (hb.alloc hz (.cells #[.int .i64 2, .int .i64 7] 72)).trans hb5; have hz6 := hb6.size; have c6 := (hb6.cell (p := ⟨b, off + k, none⟩) g3).trans c00.out)
            | (at_builtin; (with_reducible refine wpList_app rfl (.tmp 26) (.tmp 30) rfl hE.out flat_tv rfl hown5 rfl (hs.out.below hb6 (.inr (Nat.le_refl _))) ?c2 hz6 ?_); rotate_right; intro A7 c7 w7 hown7 hgr7 hb7 _))
          case c0 => rfl
          case c1 => omega
          case c2 => omega
          go_roundw
          case rel => exact ⟨k + 1, by omega, by go_num, A7, _, c7, rfl, _, hown7, hnext.out, by omega, hb6.trans hb7⟩
          case measure => simp [intOf]; omega
        · have h1i : ¬ ((k : Int) + 1 < (n : Int)) := by omega
          rw [if_neg h1] at hnext
          replace hnext := hide hnext
          go_wp2_with (first | (at_builtin; (with_reducible refine wpList_app rfl (.tmp 26) (.tmp 30) rfl hE.out flat_tv rfl hown2.out rfl (hs.out.below hb (.inr (Nat.le_refl _))) ?c2 hz ?_); rotate_right; intro A7 c7 w7 hown7 hgr7 hb7 _))
          case c2 => omega
          go_roundw
          case rel => exact ⟨k + 1, by omega, by go_num, A7, _, c7, rfl, _, hown7, hnext.out, by omega, hb.trans hb7⟩
          case measure => simp [intOf]; omega
      · have hkn : k = n := by omega
        subst hkn
        have hfin := hinv.out
        unfold conjInv at hfin
        rw [if_neg (by rw [hL.out]; omega)] at hfin
        replace hfin := hide hfin
        clear h
        go_wp2
        go_ret
        exact ⟨A2, m, c2, rfl, by rw [← hfin.out]; exact hown2.out.sl flat_tv, hb⟩

end Go.Proofs.Ytdjhpdmpibokhaa
