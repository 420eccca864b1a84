/-
  The two conjunctions. Conditions: at most 1048576 expressions of at most 1048576 terms.
-/
import Derived.Test.YtdjhpdmpibokhaaConj
namespace Go.Proofs.Ytdjhpdmpibokhaa
open Go.ChangeShapes Go.WideShapes Go.ChangeAt Go.RowKit
set_option linter.unusedVariables false

theorem RowsG.cut {β α : Type} {hd : β → Hd} {osz : Nat} {g : β → List Value} {size most : Nat} {f : α → List Value} {w : World} {lo hi n c k : Nat} {A : Option Addr} {R : List (β × List α)} (h : RowsG hd osz g size f most w lo hi A n R) (hk : k ≤ n) (hc : n ≤ c) :
    RowsG hd osz g size f most w lo hi (cutA A k c osz) (n - k) (R.drop k) :=
  ⟨by rw [List.map_drop]; exact h.outer.cut hk hc, fun r hr => h.rows r (List.mem_of_mem_drop hr)⟩

theorem rows3 (w : World) (lo : Nat) (hlo : lo ≤ w.heap.size) (t : TypeId) (x y z : Hd) (l1 l2 l3 : List (Int × Int)) (most : Nat) (h1 : SlT w lo w.heap.size x.1 x.2.1 l1) (h2 : SlT w lo w.heap.size y.1 y.2.1 l2) (h3 : SlT w lo w.heap.size z.1 z.2.1 l3)
    (m1 : x.2.1 ≤ most) (m2 : y.2.1 ≤ most) (m3 : z.2.1 ≤ most) (g : Nat) (hg : g = w.heap.size) :
    RowsT most (w.alloc (.cells #[.slice x.1 x.2.1 x.2.2, .slice y.1 y.2.1 y.2.2, .slice z.1 z.2.1 z.2.2] t)) lo (g + 1) (some ⟨g, 0, none⟩) 3 [(x, l1), (y, l2), (z, l3)] := by
  subst hg
  have hb : Below w.heap.size w (w.alloc (.cells #[.slice x.1 x.2.1 x.2.2, .slice y.1 y.2.1 y.2.2, .slice z.1 z.2.1 z.2.2] t)) := (Below.refl _ _).alloc (Nat.le_refl _) _
  refine ⟨⟨rfl, fun _ => ⟨w.heap.size, 0, rfl, hlo, by omega, by simp, fun k q hq j u hu => ?_⟩⟩, fun r hr => ?_⟩
  · have hgw := heap_alloc_new w (.cells #[.slice x.1 x.2.1 x.2.2, .slice y.1 y.2.1 y.2.2, .slice z.1 z.2.1 z.2.2] t)
    have hj : j = 0 := by have := (List.getElem?_eq_some_iff.1 hu).1; simp [sv] at this; omega
    subst hj
    refine ⟨(cell_of_row _ _ _ _ t (0, 0) hgw).trans ?_, frozen_of_row _ _ _ _ t hgw⟩
    match k, hq with
    | 0, hq => simp at hq; subst hq; simpa [sv] using hu
    | 1, hq => simp at hq; subst hq; simpa [sv] using hu
    | 2, hq => simp at hq; subst hq; simpa [sv] using hu
  · simp only [List.mem_cons, List.not_mem_nil, or_false] at hr
    rcases hr with rfl | rfl | rfl
    · exact ⟨(h1.below hb (.inr (Nat.le_refl _))).more (Nat.le_refl _) (Nat.le_succ _), m1⟩
    · exact ⟨(h2.below hb (.inr (Nat.le_refl _))).more (Nat.le_refl _) (Nat.le_succ _), m2⟩
    · exact ⟨(h3.below hb (.inr (Nat.le_refl _))).more (Nat.le_refl _) (Nat.le_succ _), m3⟩

theorem lit_kept (w w1 : World) (hb1 : Below ((w.alloc (.cells #[.int .i64 2, .int .i64 7] 72)).drew).heap.size ((w.alloc (.cells #[.int .i64 2, .int .i64 7] 72)).drew) w1) : SlT w1 0 w1.heap.size (some ⟨w.heap.size, 0, none⟩) 1 [(2, 7)] :=
  ((Sl.lit1' w 72 ((2, 7) : Int × Int) #[.int .i64 2, .int .i64 7] rfl 2 w.heap.size rfl).drew.below hb1 (.inr (by simp))).top.more (Nat.le_refl _) (Nat.le_refl _)

/-- The last step: the three parts one behind the other. -/
theorem concat3 (w w1 : World) (LB Ah A1 : Option Addr) (nh ch m1 c1 lo2 : Nat) (s r : List (Int × Int)) (lo hi : Nat)
    (hb2 : Below w.heap.size w w1) (hlit : SlT w1 0 w1.heap.size LB 1 [(2, 7)]) (hs : SlT w lo hi Ah nh s) (hnh : nh ≤ 1048576) (hA : SlT w1 lo2 w1.heap.size A1 m1 r) {n : Nat} (hr : r.length ≤ 1 + (n - 1) * 1048577) (hn : n ≤ 1048576) :
    Calls Try.prog 100 #[.slice (some ⟨w1.heap.size, 0, none⟩) 3 3] (w1.alloc (.cells #[.slice LB 1 1, .slice Ah nh ch, .slice A1 m1 c1] 25)) fun e w' => ∃ A' c', e = .returned (.slice A' (1 + nh + m1) c') ∧
      SlT w' w.heap.size w'.heap.size A' (1 + nh + m1) ((2, 7) :: (s ++ r)) ∧ Below w.heap.size w w' := by
  have hs1 : SlT w1 0 w1.heap.size Ah nh s := ((hs.below hb2 (.inr (Nat.le_refl _))).top).more (Nat.zero_le _) (Nat.le_refl _)
  have hA1 := hA.more (Nat.zero_le _) (Nat.le_refl _) (lo' := 0) (hi' := w1.heap.size)
  have hm1 : m1 ≤ 1 + (n - 1) * 1048577 := by rw [← hA.len]; exact hr
  have hR := rows3 w1 0 (Nat.zero_le _) 25 (LB, 1, 1) (Ah, nh, ch) (A1, m1, c1) _ _ _ 2199023255552 hlit hs1 hA1 (by show 1 ≤ _; omega) (by show nh ≤ _; omega) (by show m1 ≤ _; omega) w1.heap.size rfl
  have hpre : preG id [(((LB, 1, 1) : Hd), [((2, 7) : Int × Int)]), ((Ah, nh, ch), s), ((A1, m1, c1), r)] 3 = 1 + nh + m1 := by simp [preG]; omega
  have hq := concatT_calls _ 3 3 _ _ _ _ _ hR (by omega) (by rw [hpre]; omega)
  rw [hpre] at hq
  refine hq.mono ?_
  rintro e w' ⟨A', c', rfl, hS, hb⟩
  have hbz := ((Below.refl w1.heap.size w1).alloc (Nat.le_refl _) (.cells #[.slice LB 1 1, .slice Ah nh ch, .slice A1 m1 c1] 25))
  have hle : w.heap.size ≤ (w1.alloc (.cells #[.slice LB 1 1, .slice Ah nh ch, .slice A1 m1 c1] 25)).heap.size := Nat.le_trans hb2.size hbz.size
  exact ⟨A', c', rfl, by simpa using hS.more hle (Nat.le_refl _), hb2.trans ((hbz.mono hb2.size).trans (hb.mono hle))⟩

set_option maxHeartbeats 1600000 in
set_option maxRecDepth 100000 in
theorem conjunction_calls (k : Nat) : ∀ (A : Option Addr) (n c : Nat) (R : List (Hd × List (Int × Int))) (w : World) (lo hi : Nat) (hk : n ≤ k) (h : RowsT 1048576 w lo hi A n R) (hn : n ≤ 1048576) (hc : n ≤ c),
    Calls Try.prog 69 #[.slice A n c] w fun e w' => ∃ A' m c', e = .returned (.slice A' m c') ∧ SlT w' w.heap.size w'.heap.size A' m (conjF (R.map (·.2))) ∧ Below w.heap.size w w' := by
  induction k with
  | zero =>
    intro A n c R w lo hi hk h hn hc
    have hn0 : n = 0 := by omega
    subst hn0
    have hR : R = [] := List.eq_nil_of_length_eq_zero h.len
    subst hR
    clear h
    go_enter Try.func69, Try.ntmps69
    go_wp2_with fail
    go_ret
    exact ⟨_, _, _, rfl, (Sl.lit1 w 72 (0, 1) _ rfl 2 _ (Nat.le_refl _)).more (Nat.le_refl _) (by simp), (Below.refl _ _).alloc (Nat.le_refl _) _⟩
  | succ k ih =>
    intro A n c R w lo hi hk h hn hc
    rcases Nat.lt_or_ge n (k + 1) with hlt | hge
    · exact ih A n c R w lo hi (by omega) h hn hc
    have hnk : n = k + 1 := by omega
    obtain ⟨b, off, Ah, nh, ch, s, rfl, g1, g2, g3, hx, c0, hs, hnh⟩ := h.atT (show 0 < n by omega)
    rw [Nat.add_zero] at c0
    have hdrop : R = ((Ah, nh, ch), s) :: R.drop 1 := by
      cases R with
      | nil => simp at hx
      | cons r R => simp at hx; subst hx; rfl
    by_cases h1 : n = 1
    · have hq := hide (cloneT_calls Ah nh ch s w lo hi hs hnh)
      have hR : R.drop 1 = [] := List.drop_eq_nil_of_le (by rw [h.len]; omega)
      rw [hR] at hdrop
      replace hdrop := hide hdrop
      clear h hx hs ih hk hR hc hnk hge
      subst h1
      go_enter Try.func69, Try.ntmps69
      go_wp2_with fail
      refine hq.out.mono ?_
      rintro e w1 ⟨A1, c1, rfl, hs1, hb1⟩
      go_wp2_with fail
      go_ret
      exact ⟨_, _, _, rfl, by rw [hdrop.out]; exact hs1, hb1⟩
    · have hn2 : 1 < n := by omega
      have hnI : ((n : Int) == 0) = false := by rw [beq_eq_false_iff_ne]; omega
      have hnJ : ((n : Int) == 1) = false := by rw [beq_eq_false_iff_ne]; omega
      have hl := h.len
      have hcutR := hide (h.cut (k := 1) (by omega) hc)
      have hcut : ∀ W, (Instr.slice 39 (.slice (some ⟨b, off, none⟩) n c) (some (.int .i64 1)) none none).run Try.prog W = .ok (.slice (cutA (some ⟨b, off, none⟩) 1 c 1) (n - 1) (c - 1)) W := fun W => run_cut elem_termRows (some ⟨b, off, none⟩) n c 1 (by omega) W
      have hrec := hide (fun W (hW : Below w.heap.size w W) => ih (cutA (some ⟨b, off, none⟩) 1 c 1) (n - 1) (c - 1) (R.drop 1) W lo hi (by omega) (hcutR.out.below hW (.inr (Nat.le_refl _))) (by omega) (by omega))
      have hval : Hid (conjF (R.map (·.2)) = (2, 7) :: (s ++ conjF ((R.drop 1).map (·.2)))) := by
        show _ = _
        conv => lhs; rw [hdrop]
        have hd1 : R.drop 1 = R[1] :: R.drop 2 := List.drop_eq_getElem_cons (by omega)
        rw [hd1]
        rfl
      have hrest : Hid ((conjF ((R.drop 1).map (·.2))).length ≤ 1 + (n - 1) * 1048577) := by
        have := conjF_len ((R.drop 1).map (·.2)) (fun x hx => by
          obtain ⟨r, hr, rfl⟩ := List.mem_map.1 hx
          have h2 := h.rows r (List.mem_of_mem_drop hr)
          rw [h2.1.len]
          exact h2.2)
        rw [List.length_map, List.length_drop, hl] at this
        exact this
      generalize cutA (some ⟨b, off, none⟩) 1 c 1 = AC at *
      replace hs := hide hs
      clear h hx ih hdrop hcutR hnk hge hk
      have hW1 : Below w.heap.size w (w.alloc (.cells #[.int .i64 2, .int .i64 7] 72)).drew := ((Below.refl _ _).alloc (Nat.le_refl _) _).drew
      have hW0 : Below w.heap.size w w.drew := (Below.refl _ _).drew
      have hn0i : 0 < n := by omega
      have ca := (hW1.cell (p := ⟨b, off, none⟩) g3).trans c0
      go_enter Try.func69, Try.ntmps69
      go_wp2_with fail
      go_region_law (first
        | (go_simp; go_at_call 69; (with_reducible refine (hrec.out ((w.alloc (.cells #[.int .i64 2, .int .i64 7] 72)).drew) hW1).mono ?_); rintro e w1 ⟨A1, m1, c1, rfl, hA1, hb1⟩; have hz1 := hW1.size; have hb2 := hW1.trans (hb1.mono hz1); have cb := (hb2.cell (p := ⟨b, off, none⟩) g3).trans c0; have hcc := concat3 w w1 (some ⟨w.heap.size, 0, none⟩) Ah A1 nh ch m1 c1 _ s _ lo hi hb2 (lit_kept w w1 hb1) hs.out hnh hA1 hrest.out hn; replace hA1 := hide hA1; replace hcc := hide hcc)
        | (go_simp; go_at_call 69; (with_reducible refine (hrec.out w.drew hW0).mono ?_); rintro e w1 ⟨A1, m1, c1, rfl, hA1, hb1⟩; have hb2 : Below w.heap.size w w1 := hW0.trans hb1; have cb := (hb2.cell (p := ⟨b, off, none⟩) g3).trans c0; have hb2a : Below w.heap.size w (w1.alloc (.cells #[.int .i64 2, .int .i64 7] 72)) := hb2.alloc hb2.size _; have cc := (hb2a.cell (p := ⟨b, off, none⟩) g3).trans c0; have hcc := concat3 w (w1.alloc (.cells #[.int .i64 2, .int .i64 7] 72)) (some ⟨w1.heap.size, 0, none⟩) Ah A1 nh ch m1 c1 _ s _ lo hi hb2a ((Sl.lit1' w1 72 ((2, 7) : Int × Int) _ rfl 2 w1.heap.size rfl).more (Nat.le_refl _) (by simp)) hs.out hnh ((hA1.below ((Below.refl w1.heap.size w1).alloc (Nat.le_refl _) (.cells #[.int .i64 2, .int .i64 7] 72)) (.inr (Nat.le_refl _))).top) hrest.out hn; rw [World.size_alloc] at hcc; replace hA1 := hide hA1; replace hcc := hide hcc)
        | (go_simp; go_at_call 100; (with_reducible refine hcc.out.mono ?_); rintro e w2 ⟨A2, c2, rfl, hA2, hb3⟩; replace hA2 := hide hA2))
      all_goals go_wp2_with fail
      all_goals go_ret
      all_goals exact ⟨A2, _, c2, rfl, by rw [hval.out]; exact hA2.out, hb3⟩

end Go.Proofs.Ytdjhpdmpibokhaa
