/-
  All expressions of a summand: slices.Grow and Concat on lists of lists of terms. Conditions: sizes.
-/
import Derived.Test.YtdjhpdmpibokhaaConj2
import Derived.Test.YtdjhpdmpibokhaaLin6
namespace Go.Proofs.Ytdjhpdmpibokhaa
open Go.ChangeShapes Go.WideShapes Go.ChangeAt Go.RowKit
set_option linter.unusedVariables false

theorem RowsG.atS {most : Nat} {w : World} {lo hi n k : Nat} {A : Option Addr} {R : List (Hd × List Hd)} (h : RowsG (id : Hd → Hd) 1 sv 1 sv most w lo hi A n R) (hk : k < n) :
    ∃ b off Ah nh ch s, A = some ⟨b, off, none⟩ ∧ lo ≤ b ∧ b < hi ∧ b < w.heap.size ∧ R[k]? = some ((Ah, nh, ch), s) ∧ w.cell? ⟨b, off + k, none⟩ = some (.slice Ah nh ch) ∧ Sl 1 sv w lo hi Ah nh s ∧ nh ≤ most := by
  obtain ⟨b, off, ⟨Ah, nh, ch⟩, s, e, g1, g2, g3, hr, hc, hs, hn⟩ := h.get hk
  have h0 := (hc 0 _ rfl).1
  simp only [Nat.mul_one, Nat.add_zero] at h0
  exact ⟨b, off, Ah, nh, ch, s, e, g1, g2, g3, hr, h0, hs, hn⟩

set_option maxRecDepth 100000 in
/-- slices.Grow on nil: a row of the call's own, still empty. -/
theorem growTT_calls (k : Nat) (w : World) (hk : k ≤ 4398046511104) :
    Calls Try.prog 132 #[.slice none 0 0, .int .i64 (k : Int)] w fun e w' => ∃ A c, e = .returned (.slice A 0 c) ∧ Own 1 sv w' w.heap.size 25 A 0 c ([] : List Hd) ∧ Below w.heap.size w w' := by
  rcases Nat.eq_zero_or_pos k with rfl | h0
  · go_enter Try.func132, Try.ntmps132
    go_wp2_with fail
    go_ret
    exact ⟨none, 0, rfl, Own.nil_ _ _ _, Below.refl _ _⟩
  · obtain ⟨i, hi, hz, hs, hby⟩ := info_parts info_rowT
    have hcut : ∀ (W : World) (A : Option Addr) (n c : Nat), (Instr.slice 39 (.slice A n c) none (some (.int .i64 0)) none).run Try.prog W = .ok (.slice A 0 c) W := fun W A n c => run_head elem_termRows A n c 0 (Nat.zero_le _) W
    have hrun := fun ty => Lib.run_append_nil_zeros (P := Try.prog) w 39 3 ty 25 i _ .i64 .i64 Try.underlying39 Try.underlying3 hi hz k h0 (by rw [hs]; omega) (by omega) (by rw [hby]; omega)
    have hg1 := grownCap_ge w k 0 25
    have hg2 := grownCap_le_maxLen w k 0 25 (by unfold maxLen; omega)
    generalize grownCap w k 0 25 = G at *
    unfold maxLen at hg2
    have hrun := hide hrun
    have hsz : Hid ((Builtin.zeroCells #[.slice none 0 0] k ++ Builtin.zeroCells #[.slice none 0 0] (G - k)).size = G * 1) := by show _ = _; rw [Array.size_append, size_zeroCells, size_zeroCells, ← Nat.add_mul]; show (k + (G - k)) * 1 = G * 1; congr 1; omega
    have q1 : ¬ ((k : Int) < 0) := by omega
    have q2 : (0 : Int) < (k : Int) := by omega
    clear hi hz hs hby
    go_enter Try.func132, Try.ntmps132
    go_wp2_with (first | (at_builtin; (with_reducible refine Lib.wpList_append_run _ rfl (.tmp 20) (.tmp 21) _ _ rfl _ _ rfl rfl _ _ (hrun.out _) ?_)))
    all_goals go_ret
    all_goals exact ⟨_, _, rfl, ⟨rfl, World.ownsRow_made w.drew _ _ (Nat.le_refl _) (by unfold maxLen; omega) hsz.out⟩, (Below.refl _ _).drew.alloc (Nat.le_refl _) _⟩

set_option maxHeartbeats 800000 in
theorem concatTT_calls (A : Option Addr) (n c : Nat) (R : List (Hd × List Hd)) (most : Nat) (w : World) (lo hi : Nat) (h : RowsG (id : Hd → Hd) 1 sv 1 sv most w lo hi A n R) (hn : n ≤ 1048576) (ht : preG id R n ≤ 2199023255552) :
    Calls Try.prog 129 #[.slice A n c] w fun e w' => ∃ A' c', e = .returned (.slice A' (preG id R n) c') ∧ Sl 1 sv w' w.heap.size w'.heap.size A' (preG id R n) ((R.map (·.2)).flatten) ∧ Below w.heap.size w w' := by
  have hlen := hide h.len
  have hE := hide elem_termRows
  have hmon := fun k (hk : k ≤ n) => preG_mono id R hk
  replace hmon := hide hmon
  have hgrow := hide (growTT_calls (preG id R n) w (by omega))
  replace h := hide h
  go_enter Try.func129, Try.ntmps129
  go_wp2
  go_loop [3, 11] (fun s i => ∃ k : Nat, k ≤ n ∧ i = .int .i64 k ∧ s = .int .i64 (preG id R k : Nat)) (fun _ i => n - (intOf i).toNat)
  case atStart => exact ⟨0, Nat.zero_le _, rfl, by rw [preG_zero]; rfl⟩
  case round =>
    obtain ⟨k, hk, rfl, rfl⟩ := hrel
    have hmk := hmon.out k hk
    by_cases hlt : k < n
    · obtain ⟨b, off, Ah, nh, ch, s, rfl, g1, g2, g3, hx, c0, hs, hnh⟩ := h.out.atS hlt
      have hpre : preG id R (k + 1) = preG id R k + nh := preG_succ (hd := id) hx
      have hmk1 := hmon.out (k + 1) (by omega)
      clear hx hs h hgrow
      generalize hpk : preG id R k = pk at *
      go_wp2
      go_round
      case rel => exact ⟨k + 1, by omega, by go_num, by rw [hpre]; go_num⟩
      case measure => simp [intOf]; omega
    · have hkn : k = n := by omega
      subst hkn
      clear hmk
      go_wp2_with (go_at_call 132; refine hgrow.out.mono ?_; rintro e w1 ⟨A1, c1, rfl, hown1, hb1⟩; replace hown1 := hide hown1)
      go_loopw [6, 27] (fun v i wr => ∃ (j : Nat) (A2 : Option Addr) (c2 : Nat), j ≤ k ∧ i = .int .i64 j ∧ v = .slice A2 (preG id R j) c2 ∧ Own 1 sv wr w.heap.size 25 A2 (preG id R j) c2 (((R.map (·.2)).take j).flatten) ∧ Below w.heap.size w wr) (fun _ i _ => k - (intOf i).toNat)
      case atStart => exact ⟨0, A1, c1, Nat.zero_le _, rfl, rfl, hown1.out, hb1⟩
      case round =>
        obtain ⟨j, A2, c2, hj, rfl, rfl, hown2, hb⟩ := hrel
        replace hown2 := hide hown2
        clear hown1 hb1
        by_cases hjt : j < k
        · obtain ⟨b, off, Ah, nh, ch, s, rfl, g1, g2, g3, hx, c0, hs, hnh⟩ := (h.out.below hb (.inr (Nat.le_refl _))).atS hjt
          have hpre : preG id R (j + 1) = preG id R j + nh := preG_succ (hd := id) hx
          have hmj1 := hmon.out (j + 1) (by omega)
          have hfl := hide (show ((R.map (·.2)).take (j + 1)).flatten = ((R.map (·.2)).take j).flatten ++ s by rw [List.take_add_one, List.getElem?_map, hx]; simp)
          have hs := hide hs
          have hz := hb.size
          clear hx h
          go_wp2_with (first | (at_builtin; (with_reducible refine wpList_app rfl (.tmp 31) (.tmp 32) rfl hE.out flat_sv rfl hown2.out rfl hs.out ?c1 hz ?_); rotate_right; intro A5 c5 w5 hown5 hgr5 hb5 _))
          case c1 => omega
          go_roundw
          case rel => exact ⟨j + 1, A5, c5, by omega, by go_num, by rw [hpre], by rw [hpre, hfl.out]; exact hown5, hb.trans hb5⟩
          case measure => simp [intOf]; omega
        · have hjk : j = k := by omega
          subst hjk
          clear h
          go_wp2
          go_ret
          refine ⟨A2, c2, rfl, ?_, hb⟩
          have := hown2.out.sl flat_sv
          rwa [List.take_of_length_le (by rw [List.length_map, hlen.out]; exact Nat.le_refl _)] at this


theorem rowsS3 (w : World) (lo : Nat) (hlo : lo ≤ w.heap.size) (t : TypeId) (x y z : Hd) (l1 l2 l3 : List Hd) (most : Nat) (h1 : Sl 1 sv w lo w.heap.size x.1 x.2.1 l1) (h2 : Sl 1 sv w lo w.heap.size y.1 y.2.1 l2) (h3 : Sl 1 sv w lo w.heap.size z.1 z.2.1 l3)
    (m1 : x.2.1 ≤ most) (m2 : y.2.1 ≤ most) (m3 : z.2.1 ≤ most) (g : Nat) (hg : g = w.heap.size) :
    RowsG (id : Hd → Hd) 1 sv 1 sv most (w.alloc (.cells #[.slice x.1 x.2.1 x.2.2, .slice y.1 y.2.1 y.2.2, .slice z.1 z.2.1 z.2.2] t)) lo (g + 1) (some ⟨g, 0, none⟩) 3 [(x, l1), (y, l2), (z, l3)] := by
  subst hg
  have hb : Below w.heap.size w (w.alloc (.cells #[.slice x.1 x.2.1 x.2.2, .slice y.1 y.2.1 y.2.2, .slice z.1 z.2.1 z.2.2] t)) := (Below.refl _ _).alloc (Nat.le_refl _) _
  refine ⟨⟨rfl, fun _ => ⟨w.heap.size, 0, rfl, hlo, by omega, by simp, fun k q hq j u hu => ?_⟩⟩, fun r hr => ?_⟩
  · have hgw := heap_alloc_new w (.cells #[.slice x.1 x.2.1 x.2.2, .slice y.1 y.2.1 y.2.2, .slice z.1 z.2.1 z.2.2] t)
    have hj : j = 0 := by have := (List.getElem?_eq_some_iff.1 hu).1; simp [sv] at this; omega
    subst hj
    refine ⟨(cell_of_row _ _ _ _ t (0, 0) hgw).trans ?_, frozen_of_row _ _ _ _ t hgw⟩
    match k, hq with
    | 0, hq => simp at hq; subst hq; simpa [sv] using hu
    | 1, hq => simp at hq; subst hq; simpa [sv] using hu
    | 2, hq => simp at hq; subst hq; simpa [sv] using hu
  · simp only [List.mem_cons, List.not_mem_nil, or_false] at hr
    rcases hr with rfl | rfl | rfl
    · exact ⟨(h1.below hb (.inr (Nat.le_refl _))).more (Nat.le_refl _) (Nat.le_succ _), m1⟩
    · exact ⟨(h2.below hb (.inr (Nat.le_refl _))).more (Nat.le_refl _) (Nat.le_succ _), m2⟩
    · exact ⟨(h3.below hb (.inr (Nat.le_refl _))).more (Nat.le_refl _) (Nat.le_succ _), m3⟩

end Go.Proofs.Ytdjhpdmpibokhaa
