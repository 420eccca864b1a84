/-
  What the functions that shift variables compute, on both sides. Conditions: at most 60 terms.
-/
import Derived.Test.YtdjhpdmpibokhaaSubst
namespace Go.Proofs.Ytdjhpdmpibokhaa
open Go.ChangeShapes Go.WideShapes Go.ChangeAt Go.RowKit
set_option linter.unusedVariables false

theorem l03Own_calls (A : Option Addr) (n c : Nat) (l : List (Int × Int)) (w : World) (lo hi : Nat) (h : SlT w lo hi A n l) (hn : n ≤ 1048576) :
    Calls Try.prog 96 #[.slice A n c] w fun e w' => ∃ A' c', e = .returned (.slice A' n c') ∧ Own 2 tv w' w.heap.size 72 A' n c' l ∧ Below w.heap.size w w' := by
  have hE := hide elem_implTerm
  have hs := hide (h.below ((Below.refl w.heap.size w).alloc (Nat.le_refl _) (.cells #[] 72)) (.inr (Nat.le_refl _)))
  clear h
  have hz : w.heap.size ≤ (w.alloc (.cells #[] 72)).heap.size := by simp
  go_enter Try.func96, Try.ntmps96
  go_wp2_with (first | (at_builtin; (with_reducible refine wpList_app rfl (.tmp 3) (.tmp 4) rfl hE.out flat_tv rfl (Own.made w 72 (Nat.le_refl _)) rfl hs.out ?c1 hz ?_); rotate_right; intro A2 c2 w2 hown2 hgr2 hb2 _))
  case c1 => omega
  go_ret
  exact ⟨_, _, rfl, by rw [Nat.zero_add] at hown2; exact hown2, ((Below.refl _ _).alloc (Nat.le_refl _) _).trans hb2⟩

theorem l03Shift_calls (A : Option Addr) (n c : Nat) (l : List (Int × Int)) (f b0 : Int) (w : World) (lo hi : Nat) (h : SlT w lo hi A n l) (hn : n ≤ 60) (hb0 : -29 ≤ b0 ∧ b0 ≤ 29)
    (hV : ∀ (k : Nat) (x : Int), l[k]? = some (1, x) → 0 ≤ x ∧ x ≤ 28) :
    Calls Try.prog 64 #[.slice A n c, .int .i64 f, .int .i64 b0] w fun e w' => ∃ A' c', e = .returned (.slice A' n c') ∧ SlT w' w.heap.size w'.heap.size A' n (l.map (shift1 f b0)) ∧ Below w.heap.size w w' := by
  have hlen := hide h.len
  replace hV := hide hV
  have hb00 := hb0.1
  have hb01 := hb0.2
  clear hb0
  go_enter Try.func64, Try.ntmps64
  go_wp2_with ((go_at_call 96; (with_reducible refine (l03Own_calls A n c l w lo hi h (by omega)).mono ?_); rintro e w1 ⟨A1, c1, rfl, hown, hb⟩))
  have hsl := hown.sl flat_tv
  clear hown h
  have hz := hb.size
  go_loopw [8] (fun i wr => ∃ (k : Nat) (L : List (Int × Int)), k ≤ n ∧ i = .int .i64 k ∧ SlT wr w.heap.size w1.heap.size A1 n L ∧ MapK (shift1 f b0) k l L ∧ wr.heap.size = w1.heap.size ∧ Below w.heap.size w wr) (fun i _ => n - (intOf i).toNat)
  case atStart => exact ⟨0, l, Nat.zero_le _, rfl, hsl, MapK.start _ _, rfl, hb⟩
  case round =>
    obtain ⟨k, L, hk, rfl, hs, hmk, hzr, hbr⟩ := hrel
    replace hzr := hide hzr
    replace hmk := hide hmk
    clear hsl hb
    by_cases hlt : k < n
    · obtain ⟨b, off, x1, x2, rfl, g1, g2, g3, hx, c0, c1, z0, z1⟩ := hs.get hlt
      have hold := hide (hmk.out.2.2 k (Nat.le_refl _))
      by_cases ht : x1 = 1
      · subst ht
        have hv := hV.out k x2 (by rw [← hold.out]; exact hx)
        have hv0 := hv.1
        have hv1 := hv.2
        clear hv
        by_cases hf : f ≤ x2
        · have hput := hide (hs.put_snd hx (x2 + b0))
          have hnext := hide (hmk.out.set hx (shift1_yes ⟨rfl, hf⟩))
          clear hs hx
          go_wp2
          go_roundw
          case rel => exact ⟨k + 1, _, by omega, by go_num, hput.out, hnext.out, by have := hzr.out; simpa [World.setCell] using this, hbr.setCell g1 _⟩
          case measure => simp [intOf]; omega
        · have hnext := hide (hmk.out.skip hx (shift1_no (by omega)))
          replace hs := hide hs
          clear hx
          go_wp2
          go_roundw
          case rel => exact ⟨k + 1, _, by omega, by go_num, hs.out, hnext.out, hzr.out, hbr⟩
          case measure => simp [intOf]; omega
      · have e1 : (x1 == 1) = false := by simpa using ht
        have hnext := hide (hmk.out.skip hx (shift1_no (b := b0) (f := f) (by omega)))
        replace hs := hide hs
        clear hx ht
        go_wp2
        go_roundw
        case rel => exact ⟨k + 1, _, by omega, by go_num, hs.out, hnext.out, hzr.out, hbr⟩
        case measure => simp [intOf]; omega
    · have hkn : k = n := by omega
      subst hkn
      have he := hide (hmk.out.done hlen.out)
      replace hs := hide hs
      go_wp2
      go_ret
      exact ⟨_, _, rfl, by rw [← he.out]; exact hs.out.top, hbr⟩

theorem shifted1_calls (v f b0 : Int) (b4 b5 : Nat) (W : World) (h4 : W.cell? ⟨b4, 0, none⟩ = some (.int .i64 f)) (h5 : W.cell? ⟨b5, 0, none⟩ = some (.int .i64 b0)) (hv : 0 ≤ v ∧ v ≤ 28) (hb : -29 ≤ b0 ∧ b0 ≤ 29) :
    Calls Try.prog 97 #[.int .i64 v, .pointer (some ⟨b4, 0, none⟩), .pointer (some ⟨b5, 0, none⟩)] W (Gives (fun v => if v < f then none else some [(1, v + b0)]) W v) := by
  have hv0 := hv.1
  have hv1 := hv.2
  have hb1 := hb.1
  have hb2 := hb.2
  clear hv hb
  by_cases h : v < f
  · have hd : decide (v < f) = true := by simpa using h
    go_enter Try.func97, Try.ntmps97
    go_wp2
    go_ret
    exact ⟨Below.refl _ _, .inl ⟨by simp [h], rfl⟩⟩
  · have h' : f ≤ v := by omega
    clear h
    go_enter Try.func97, Try.ntmps97
    go_wp2
    go_ret
    exact ⟨(Below.refl _ _).alloc (Nat.le_refl _) _, .inr ⟨_, 1, _, [(1, v + b0)], by simp; omega, rfl, by omega, (Sl.lit1' W 72 (1, v + b0) _ rfl 2 _ rfl).more (Nat.le_refl _) (by simp)⟩⟩

theorem shifted_calls (A : Option Addr) (n c : Nat) (l : List (Int × Int)) (f b0 : Int) (w : World) (lo hi : Nat) (h : SlT w lo hi A n l) (hn : n ≤ 60) (hb0 : -29 ≤ b0 ∧ b0 ≤ 29)
    (hV : ∀ (k : Nat) (x : Int), l[k]? = some (1, x) → 0 ≤ x ∧ x ≤ 28) :
    Calls Try.prog 65 #[.slice A n c, .int .i64 f, .int .i64 b0] w fun e w' => ∃ A' q c', e = .returned (.slice A' q c') ∧ q = n ∧ SlT w' w.heap.size w'.heap.size A' q (l.map (shift1 f b0)) ∧ Below w.heap.size w w' := by
  have hb1 : Below w.heap.size w ((w.alloc (.cells #[.int .i64 f] 2)).alloc (.cells #[.int .i64 b0] 2)) := ((Below.refl _ _).alloc (Nat.le_refl _) _).alloc (by simp) _
  have hF : ∀ (v : Int) (u1 u2 : Value) (W : World), Sem.run Try.prog (callFunc 97 #[.int .i64 v, u1, u2]) W = .ok (.enter 97 #[.int .i64 v, u1, u2]) W := fun _ _ _ _ => by kernel_rfl
  replace hF := hide hF
  obtain ⟨x4, x5⟩ := two_boxes w (.int .i64 f) (.int .i64 b0) 2 2
  have hlen := hide h.len
  have hz := hb1.size
  have q4 := hide (replaced_calls 97 (.pointer (some ⟨w.heap.size, 0, none⟩)) (.pointer (some ⟨w.heap.size + 1, 0, none⟩)) (fun v => if v < f then none else some [(1, v + b0)]) (fun v => 0 ≤ v ∧ v ≤ 28) A n c l _ _ _ (h.below hb1 (.inr (Nat.le_refl _))) (by omega) (fun v W => hF.out v _ _ W) hV (fun v W hv hW => shifted1_calls v f b0 _ _ W ((old_cell hW (by simp only [World.size_alloc]; omega)).trans x4) ((old_cell hW (by simp only [World.size_alloc]; omega)).trans x5) hv hb0))
  clear h hV hF x4 x5
  go_enter Try.func65, Try.ntmps65
  go_wp2_with fail
  refine q4.out.mono ?_
  rintro e w1 ⟨A1, q, c1, rfl, hq, hown, hb2⟩
  rw [repl_shift] at hown
  have hl2 := hown.len
  rw [List.length_map, hlen.out] at hl2
  subst hl2
  have hb3 := hb1.trans (hb2.mono hz)
  have hown' := hide ((hown.lower hz).sl flat_tv)
  clear hown hb1 hb2
  go_wp2_with fail
  go_ret
  exact ⟨_, _, _, rfl, rfl, hown'.out, hb3⟩

theorem specShiftVariables_std (w : World) (A : Option Addr) (n c : Nat) (l : List (Int × Int)) (lo hi : Nat) (h : SlT w lo hi A n l) (hn : n ≤ 1048576) (f b0 : Int) :
    Calls Try.prog 23 #[.slice A n c, .int .i64 f, .int .i64 b0] w fun e w' => ∃ A' q c', e = .returned (.tuple #[.slice A' q c', .int .i64 (shiftVariablesF l f b0).2]) ∧ q ≤ 1048576 ∧ SlT w' w.heap.size w'.heap.size A' q (shiftVariablesF l f b0).1 ∧ Below w.heap.size w w' := by
  have q1 := l03Any_calls A n c l w lo hi h hn
  have q2 := l00In_calls f 0 29 w
  have q3 := l00In_calls b0 (-29) 29 w
  by_cases c1 : isTerms l 29 60 = true
  · rw [c1] at q1
    replace q1 := hide q1
    have hn2 := isTerms_len c1
    rw [h.len] at hn2
    have hV := isTerms_var c1
    by_cases c2 : inB f 0 29 = true
    · rw [c2] at q2
      replace q2 := hide q2
      by_cases c3 : inB b0 (-29) 29 = true
      · rw [c3] at q3
        replace q3 := hide q3
        have hbb : -29 ≤ b0 ∧ b0 ≤ 29 := by simpa [inB] using c3
        have q4 := hide (l03Shift_calls A n c l f b0 w lo hi h (by omega) hbb (fun k x hx => by have := hV k x hx; omega))
        have hs : Hid (shiftVariablesF l f b0 = if isTerms (l.map (shift1 f b0)) 29 60 = false then ([], 2) else (l.map (shift1 f b0), 0)) := by unfold shiftVariablesF; rw [c1, c2, c3]; rfl
        clear c1 c2 c3 h hV hbb
        go_enter Try.func23, Try.ntmps23
        go_wp2_with (first | (go_at_call 56; (with_reducible refine q1.out.mono ?_); rintro e w' ⟨rfl, rfl⟩) | (go_at_call 49; (with_reducible refine q2.out.mono ?_); rintro e w' ⟨rfl, rfl⟩) | (go_at_call 49; (with_reducible refine q3.out.mono ?_); rintro e w' ⟨rfl, rfl⟩))
        refine q4.out.mono ?_
        rintro e w1 ⟨A1, c1, rfl, hsl, hb⟩
        go_wp2_with fail
        have q5 := l03Any_calls _ _ c1 _ w1 _ _ hsl hn
        replace hsl := hide hsl
        by_cases c4 : isTerms (l.map (shift1 f b0)) 29 60 = true
        · have hs2 := hide (hs.out.trans (if_neg (by rw [c4]; decide)))
          rw [c4] at q5
          replace q5 := hide q5
          clear c4
          refine q5.out.mono ?_
          rintro e w2 ⟨rfl, rfl⟩
          go_wp2_with fail
          go_ret2
          exact ⟨_, _, _, by rw [hs2.out]; rfl, by omega, by rw [hs2.out]; exact hsl.out, hb⟩
        · replace c4 := Bool.eq_false_iff.2 c4
          have hs2 := hide (hs.out.trans (if_pos c4))
          rw [c4] at q5
          replace q5 := hide q5
          clear c4
          refine q5.out.mono ?_
          rintro e w2 ⟨rfl, rfl⟩
          go_wp2_with fail
          go_ret2
          exact ⟨_, _, _, by rw [hs2.out]; rfl, by omega, by rw [hs2.out]; exact Sl.nil_, hb⟩
      · replace c3 := Bool.eq_false_iff.2 c3
        rw [c3] at q3
        replace q3 := hide q3
        have hs : Hid (shiftVariablesF l f b0 = ([], 2)) := by unfold shiftVariablesF; rw [c1, c2, c3]; rfl
        clear c1 c2 c3 h hV
        go_enter Try.func23, Try.ntmps23
        go_wp2_with (first | (go_at_call 56; (with_reducible refine q1.out.mono ?_); rintro e w' ⟨rfl, rfl⟩) | (go_at_call 49; (with_reducible refine q2.out.mono ?_); rintro e w' ⟨rfl, rfl⟩) | (go_at_call 49; (with_reducible refine q3.out.mono ?_); rintro e w' ⟨rfl, rfl⟩))
        go_ret2
        exact ⟨_, _, _, by rw [hs.out]; rfl, by omega, by rw [hs.out]; exact Sl.nil_, Below.refl _ _⟩
    · replace c2 := Bool.eq_false_iff.2 c2
      rw [c2] at q2
      replace q2 := hide q2
      have hs : Hid (shiftVariablesF l f b0 = ([], 2)) := by unfold shiftVariablesF; rw [c1, c2]; rfl
      clear c1 c2 h q3 hV
      go_enter Try.func23, Try.ntmps23
      go_wp2_with (first | (go_at_call 56; (with_reducible refine q1.out.mono ?_); rintro e w' ⟨rfl, rfl⟩) | (go_at_call 49; (with_reducible refine q2.out.mono ?_); rintro e w' ⟨rfl, rfl⟩))
      go_ret2
      exact ⟨_, _, _, by rw [hs.out]; rfl, by omega, by rw [hs.out]; exact Sl.nil_, Below.refl _ _⟩
  · replace c1 := Bool.eq_false_iff.2 c1
    rw [c1] at q1
    replace q1 := hide q1
    have hs : Hid (shiftVariablesF l f b0 = ([], 1)) := by unfold shiftVariablesF; rw [c1]; rfl
    clear c1 h q2 q3
    go_enter Try.func23, Try.ntmps23
    go_wp2_with (first | (go_at_call 56; (with_reducible refine q1.out.mono ?_); rintro e w' ⟨rfl, rfl⟩))
    go_ret2
    exact ⟨_, _, _, by rw [hs.out]; rfl, by omega, by rw [hs.out]; exact Sl.nil_, Below.refl _ _⟩

theorem implShiftVariables_std (w : World) (A : Option Addr) (n c : Nat) (l : List (Int × Int)) (lo hi : Nat) (h : SlT w lo hi A n l) (hn : n ≤ 1048576) (f b0 : Int) :
    Calls Try.prog 24 #[.slice A n c, .int .i64 f, .int .i64 b0] w fun e w' => ∃ A' q c', e = .returned (.tuple #[.slice A' q c', .int .i64 (shiftVariablesF l f b0).2]) ∧ q ≤ 1048576 ∧ SlT w' w.heap.size w'.heap.size A' q (shiftVariablesF l f b0).1 ∧ Below w.heap.size w w' := by
  have q1 := termsOk_calls A n c l w lo hi h hn
  have q2 := fun W => within_calls f 0 29 W
  have q3 := fun W => within_calls b0 (-29) 29 W
  by_cases c1 : isTerms l 29 60 = true
  · rw [c1] at q1
    replace q1 := hide q1
    have hn2 := isTerms_len c1
    rw [h.len] at hn2
    have hV := isTerms_var c1
    by_cases c2 : inB f 0 29 = true
    · simp only [c2] at q2
      replace q2 := hide q2
      by_cases c3 : inB b0 (-29) 29 = true
      · simp only [c3] at q3
        replace q3 := hide q3
        have hbb : -29 ≤ b0 ∧ b0 ≤ 29 := by simpa [inB] using c3
        have q4 := hide (fun W hW => shifted_calls A n c l f b0 W _ _ (h.below (B := w.heap.size) (w' := W) hW (.inr (Nat.le_refl _))) (by omega) hbb (fun k x hx => by have := hV k x hx; omega))
        have hs : Hid (shiftVariablesF l f b0 = if isTerms (l.map (shift1 f b0)) 29 60 = false then ([], 2) else (l.map (shift1 f b0), 0)) := by unfold shiftVariablesF; rw [c1, c2, c3]; rfl
        clear c1 c2 c3 h hV hbb
        go_enter Try.func24, Try.ntmps24
        go_wp2_with (first | (go_at_call 58; (with_reducible refine q1.out.mono ?_); rintro e w1 ⟨rfl, hb1⟩) | (go_at_call 52; (with_reducible refine (q2.out _).mono ?_); rintro e w' ⟨rfl, rfl⟩) | (go_at_call 52; (with_reducible refine (q3.out _).mono ?_); rintro e w' ⟨rfl, rfl⟩))
        refine (q4.out _ hb1).mono ?_
        rintro e w2 ⟨A1, q, c1, rfl, rfl, hsl, hb2⟩
        have hb := hb1.trans (hb2.mono hb1.size)
        have hz := hb1.size
        clear hb1 hb2
        go_wp2_with fail
        have q5 := termsOk_calls _ _ c1 _ w2 _ _ hsl hn
        by_cases c4 : isTerms (l.map (shift1 f b0)) 29 60 = true
        · have hs2 := hide (hs.out.trans (if_neg (by rw [c4]; decide)))
          rw [c4] at q5
          replace q5 := hide q5
          clear c4
          refine q5.out.mono ?_
          rintro e w3 ⟨rfl, hb3⟩
          replace hsl := hide (hsl.below hb3 (.inr (Nat.le_refl _)))
          replace hb := hb.trans (hb3.mono hb.size)
          clear hb3
          go_wp2_with fail
          go_ret2
          exact ⟨_, _, _, by rw [hs2.out]; rfl, by omega, by rw [hs2.out]; exact (hsl.out.more hz (Nat.le_refl _)).top, hb⟩
        · replace c4 := Bool.eq_false_iff.2 c4
          have hs2 := hide (hs.out.trans (if_pos c4))
          rw [c4] at q5
          replace q5 := hide q5
          clear c4 hsl
          refine q5.out.mono ?_
          rintro e w3 ⟨rfl, hb3⟩
          replace hb := hb.trans (hb3.mono hb.size)
          clear hb3
          go_wp2_with fail
          go_ret2
          exact ⟨_, _, _, by rw [hs2.out]; rfl, by omega, by rw [hs2.out]; exact Sl.nil_, hb⟩
      · replace c3 := Bool.eq_false_iff.2 c3
        simp only [c3] at q3
        replace q3 := hide q3
        have hs : Hid (shiftVariablesF l f b0 = ([], 2)) := by unfold shiftVariablesF; rw [c1, c2, c3]; rfl
        clear c1 c2 c3 h hV
        go_enter Try.func24, Try.ntmps24
        go_wp2_with (first | (go_at_call 58; (with_reducible refine q1.out.mono ?_); rintro e w1 ⟨rfl, hb1⟩) | (go_at_call 52; (with_reducible refine (q2.out _).mono ?_); rintro e w' ⟨rfl, rfl⟩) | (go_at_call 52; (with_reducible refine (q3.out _).mono ?_); rintro e w' ⟨rfl, rfl⟩))
        go_ret2
        exact ⟨_, _, _, by rw [hs.out]; rfl, by omega, by rw [hs.out]; exact Sl.nil_, hb1⟩
    · replace c2 := Bool.eq_false_iff.2 c2
      simp only [c2] at q2
      replace q2 := hide q2
      have hs : Hid (shiftVariablesF l f b0 = ([], 2)) := by unfold shiftVariablesF; rw [c1, c2]; rfl
      clear c1 c2 h q3 hV
      go_enter Try.func24, Try.ntmps24
      go_wp2_with (first | (go_at_call 58; (with_reducible refine q1.out.mono ?_); rintro e w1 ⟨rfl, hb1⟩) | (go_at_call 52; (with_reducible refine (q2.out _).mono ?_); rintro e w' ⟨rfl, rfl⟩))
      go_ret2
      exact ⟨_, _, _, by rw [hs.out]; rfl, by omega, by rw [hs.out]; exact Sl.nil_, hb1⟩
  · replace c1 := Bool.eq_false_iff.2 c1
    rw [c1] at q1
    replace q1 := hide q1
    have hs : Hid (shiftVariablesF l f b0 = ([], 1)) := by unfold shiftVariablesF; rw [c1]; rfl
    clear c1 h q2 q3
    go_enter Try.func24, Try.ntmps24
    go_wp2_with (first | (go_at_call 58; (with_reducible refine q1.out.mono ?_); rintro e w1 ⟨rfl, hb1⟩))
    go_ret2
    exact ⟨_, _, _, by rw [hs.out]; rfl, by omega, by rw [hs.out]; exact Sl.nil_, hb1⟩

end Go.Proofs.Ytdjhpdmpibokhaa
