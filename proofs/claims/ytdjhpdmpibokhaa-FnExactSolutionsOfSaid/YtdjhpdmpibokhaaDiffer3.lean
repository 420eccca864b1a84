/-
  DifferingValues, the reference's side. Conditions: none beyond 1048576 terms and bounds.
-/
import Derived.Test.YtdjhpdmpibokhaaDiffer2
namespace Go.Proofs.Ytdjhpdmpibokhaa
open Go.ChangeShapes Go.WideShapes Go.ChangeAt Go.RowKit
set_option linter.unusedVariables false

theorem made_zero (w : World) (n : Nat) : SlI (w.alloc (.cells (madeCells #[.int .i64 0] n) 2)) w.heap.size (w.heap.size + 1) (some ⟨w.heap.size, 0, none⟩) n (List.replicate n 0) := by
  refine ⟨by simp, fun h0 => ⟨w.heap.size, 0, rfl, Nat.le_refl _, by omega, by simp, fun k x hx j u hu => ?_⟩⟩
  have hj : j < 1 := (List.getElem?_eq_some_iff.1 hu).1
  obtain ⟨hk, hx2⟩ := List.getElem?_eq_some_iff.1 hx
  rw [List.length_replicate] at hk
  rw [List.getElem_replicate] at hx2
  subst hx2
  have : j = 0 := by omega
  subst this
  simp [iv] at hu
  subst hu
  have hg := heap_alloc_new w (.cells (madeCells #[.int .i64 0] n) 2)
  refine ⟨?_, frozen_of_row _ _ _ _ _ hg⟩
  rw [cell_of_row _ _ _ _ _ (0, 0) hg]
  have hsz : 0 + (k * 1 + 0) < (madeCells #[.int .i64 0] n).size := by rw [size_madeCells]; omega
  rw [Array.getElem?_eq_getElem hsz]
  simp [madeCells, Nat.mod_one]

theorem l00Min_calls (a b : Int) (w : World) : Calls Try.prog 75 #[.int .i64 a, .int .i64 b] w fun e w' => e = .returned (.int .i64 (if a < b then a else b)) ∧ w = w' := by
  by_cases h : a < b
  · have hr := hide (show (if a < b then a else b) = a from if_pos h)
    go_enter Try.func75, Try.ntmps75
    go_wp2
    go_ret
    exact ⟨by first | rfl | exact ret_i hr.out, rfl⟩
  · have hr := hide (show (if a < b then a else b) = b from if_neg h)
    have h' : b ≤ a := by omega
    clear h
    go_enter Try.func75, Try.ntmps75
    go_wp2
    go_ret
    exact ⟨by first | rfl | exact ret_i hr.out, rfl⟩

theorem uncov_min {l : List (Int × Int)} {n : Int} (h : isTerms l 29 60 = true) : isTerms l (if n < 29 then n else 29) 60 = !(l.any (uncov n)) := by
  have key : ∀ m : Int, m ≤ 29 → isTerms l m 60 = !(l.any (uncov m)) := fun m hm => by
    rw [isTerms_covered hm, h]
    rfl
  split
  · rename_i hn
    exact key n (by omega)
  · rename_i hn
    have h29 : isTerms l 29 60 = !(l.any (uncov 29)) := key 29 (by omega)
    rw [h]
    have hf : l.any (uncov n) = false := by
      rw [Bool.eq_false_iff]
      intro ha
      obtain ⟨t, ht, hu⟩ := List.any_eq_true.1 ha
      have h1 := isTerms_ok h t ht
      simp [uncov] at hu
      unfold okTerm at h1
      simp [hu.1, inB] at h1
      omega
    rw [hf]
    rfl

set_option maxHeartbeats 1600000 in
set_option maxRecDepth 100000 in
theorem specDifferingValues_std (w : World) (A : Option Addr) (n : Nat) (a : List (Int × Int)) (lo hi : Nat) (h : SlT w lo hi A n a) (hn : n ≤ 1048576) (B : Option Addr) (m : Nat) (b : List (Int × Int)) (lo' hi' : Nat) (g : SlT w lo' hi' B m b) (hm : m ≤ 1048576)
    (D : Option Addr) (q : Nat) (bs : List Int) (lo2 hi2 : Nat) (k : SlI w lo2 hi2 D q bs) (hq : q ≤ 1048576) :
    Calls Try.prog 35 #[.slice A n n, .slice B m m, .slice D q q] w fun e w' => ∃ A' r c', e = .returned (.tuple #[.slice A' r c', .int .i64 (differingValuesF a b bs).2]) ∧ r ≤ 1048576 ∧ SlI w' w.heap.size w'.heap.size A' r (differingValuesF a b bs).1 ∧ Below w.heap.size w w' := by
  have hkl := k.len
  have q1 := l03Any_calls A n n a w _ _ h hn
  have q2 := l03Any_calls B m m b w _ _ g hm
  have q3 := l03Data_calls D q q bs w _ _ k hq
  have qm := hide (l00Min_calls (q : Int) 29 w)
  by_cases c1 : isTerms a 29 60 = true
  · rw [c1] at q1
    replace q1 := hide q1
    by_cases c2 : isTerms b 29 60 = true
    · rw [c2] at q2
      replace q2 := hide q2
      have hmb : -1048576 ≤ (if (q : Int) < 29 then (q : Int) else 29) ∧ (if (q : Int) < 29 then (q : Int) else 29) ≤ 1048576 := by split <;> omega
      have q4 := l03Is_calls A n n a (if (q : Int) < 29 then (q : Int) else 29) 60 w _ _ h hn hmb.1 hmb.2
      have q5 := l03Is_calls B m m b (if (q : Int) < 29 then (q : Int) else 29) 60 w _ _ g hm hmb.1 hmb.2
      rw [uncov_min c1] at q4
      rw [uncov_min c2] at q5
      have hqm := qm.out
      generalize (if (q : Int) < 29 then (q : Int) else 29) = nm at q4 q5 hqm
      replace hqm := hide hqm
      clear qm hmb
      have hsb : boundsF bs [a, b] = if dataOk bs = false ∨ a.any (uncov q) = true ∨ b.any (uncov q) = true then 2 else if overF bs 1 = true then 5 else 0 := by
        unfold boundsF
        rw [hkl]
        simp only [List.any_cons, List.any_nil, Bool.or_false, Bool.or_eq_true]
      have hsF : boundsF bs [a, b] ≠ 0 → differingValuesF a b bs = ([], boundsF bs [a, b]) := fun h0 => by
        unfold differingValuesF
        rw [if_neg (by rw [c1, c2]; simp), if_pos h0]
      by_cases c3 : dataOk bs = true
      · rw [c3] at q3
        replace q3 := hide q3
        by_cases c4 : a.any (uncov q) = true
        · have hs : Hid (differingValuesF a b bs = ([], 2)) := by
            have h2 : boundsF bs [a, b] = 2 := by rw [hsb, if_pos (.inr (.inl c4))]
            rw [hsF (by rw [h2]; omega), h2]
            exact rfl
          rw [c4] at q4
          replace q4 := hide q4
          clear c1 c2 c3 c4 h g k hkl hsb hsF q5
          go_enter Try.func35, Try.ntmps35
          go_wp2_with (first | (go_at_call 56; (with_reducible refine q1.out.mono ?_); rintro e w' ⟨rfl, rfl⟩) | (go_at_call 56; (with_reducible refine q2.out.mono ?_); rintro e w' ⟨rfl, rfl⟩) | (go_at_call 75; (with_reducible refine hqm.out.mono ?_); rintro e w' ⟨rfl, rfl⟩) | (go_at_call 70; (with_reducible refine q3.out.mono ?_); rintro e w' ⟨rfl, rfl⟩) | (go_at_call 50; (with_reducible refine q4.out.mono ?_); rintro e w' ⟨rfl, rfl⟩))
          go_ret2
          exact ⟨_, _, _, by rw [hs.out]; rfl, by omega, by rw [hs.out]; exact Sl.nil_, Below.refl _ _⟩
        · replace c4 := Bool.eq_false_iff.2 c4
          rw [c4] at q4
          replace q4 := hide q4
          by_cases c5 : b.any (uncov q) = true
          · have hs : Hid (differingValuesF a b bs = ([], 2)) := by
              have h2 : boundsF bs [a, b] = 2 := by rw [hsb, if_pos (.inr (.inr c5))]
              rw [hsF (by rw [h2]; omega), h2]
              exact rfl
            rw [c5] at q5
            replace q5 := hide q5
            clear c1 c2 c3 c4 c5 h g k hkl hsb hsF
            go_enter Try.func35, Try.ntmps35
            go_wp2_with (first | (go_at_call 56; (with_reducible refine q1.out.mono ?_); rintro e w' ⟨rfl, rfl⟩) | (go_at_call 56; (with_reducible refine q2.out.mono ?_); rintro e w' ⟨rfl, rfl⟩) | (go_at_call 75; (with_reducible refine hqm.out.mono ?_); rintro e w' ⟨rfl, rfl⟩) | (go_at_call 70; (with_reducible refine q3.out.mono ?_); rintro e w' ⟨rfl, rfl⟩) | (go_at_call 50; (with_reducible refine q4.out.mono ?_); rintro e w' ⟨rfl, rfl⟩) | (go_at_call 50; (with_reducible refine q5.out.mono ?_); rintro e w' ⟨rfl, rfl⟩))
            go_ret2
            exact ⟨_, _, _, by rw [hs.out]; rfl, by omega, by rw [hs.out]; exact Sl.nil_, Below.refl _ _⟩
          · replace c5 := Bool.eq_false_iff.2 c5
            rw [c5] at q5
            replace q5 := hide q5
            have hsb2 : boundsF bs [a, b] = if overF bs 1 = true then 5 else 0 := by rw [hsb, if_neg (by rw [c3, c4, c5]; simp)]
            have hs5 : Hid (overF bs 1 = true → differingValuesF a b bs = ([], 5)) := fun h0 => by
              have h2 : boundsF bs [a, b] = 5 := by rw [hsb2, if_pos h0]
              rw [hsF (by rw [h2]; omega), h2]
            have hs0 : Hid (overF bs 1 = false → differingValuesF a b bs = match iterN (updD a b) (goD a b) bs (restV (List.replicate q 0) bs) (List.replicate q 0) none with | some v => (v, 0) | none => ([], 3)) := fun h0 => by
              have h2 : boundsF bs [a, b] = 0 := by rw [hsb2, if_neg (by rw [h0]; decide)]
              unfold differingValuesF
              rw [if_neg (by rw [c1, c2]; simp), if_neg (by rw [h2]; simp), hkl]
              exact rfl
            have hoa := hide (okTerm_of c1 c4)
            have hob := hide (okTerm_of c2 c5)
            have hbb := hide (dataOk_bd c3)
            have hc1 := hide c1
            have hc2 := hide c2
            replace hkl := hide hkl
            clear c1 c2 c3 c4 c5 hsb hsF hsb2
            obtain ⟨i0, hi0, hz0, hz1, hz2⟩ := info_parts info_int64
            have hmk : ∀ W, (Instr.makeSlice 44 (.int .i64 (q : Int)) (.int .i64 (q : Int))).run Try.prog W = .ok (.slice (some ⟨W.heap.size, 0, none⟩) q q) (W.alloc (.cells (madeCells #[.int .i64 0] q) 2)) := fun W => by
              have h := make_row (P := Try.prog) 44 2 i0 _ _ q Try.underlying44 hi0 hz0 hz1 (by rw [hz2]; omega) (by omega) W
              rw [Nat.mul_one] at h
              exact h
            clear hi0 hz0 hz1 hz2
            replace h := hide h
            replace g := hide g
            go_enter Try.func35, Try.ntmps35
            go_wp2_with (first | (go_at_call 56; (with_reducible refine q1.out.mono ?_); rintro e w' ⟨rfl, rfl⟩) | (go_at_call 56; (with_reducible refine q2.out.mono ?_); rintro e w' ⟨rfl, rfl⟩) | (go_at_call 75; (with_reducible refine hqm.out.mono ?_); rintro e w' ⟨rfl, rfl⟩) | (go_at_call 70; (with_reducible refine q3.out.mono ?_); rintro e w' ⟨rfl, rfl⟩) | (go_at_call 50; (with_reducible refine q4.out.mono ?_); rintro e w' ⟨rfl, rfl⟩) | (go_at_call 50; (with_reducible refine q5.out.mono ?_); rintro e w' ⟨rfl, rfl⟩))
            clear q1 q2 q3 q4 q5 hqm
            go_loop [9, 10] (fun s i => ∃ (j : Nat) (z : Int), j ≤ q ∧ i = .int .i64 j ∧ s = .int .i64 z ∧ 1 ≤ z ∧ z ≤ 4096 ∧ Hid (overF bs 1 = overF (bs.drop j) z)) (fun _ i => q - (intOf i).toNat)
            case atStart => exact ⟨0, 1, Nat.zero_le _, rfl, rfl, by omega, by omega, rfl⟩
            case round =>
              obtain ⟨j, z, hj, rfl, rfl, hz0, hz1, ho⟩ := hrel
              by_cases hlt : j < q
              · obtain ⟨b', off, x, hA, p1, p2, p3, hx, c0, -⟩ := SlI.get k hlt
                subst hA
                have hxb := hbb.out x (List.mem_of_getElem? hx)
                have hm2 := mul_bd2 hz0 hz1 hxb.1 hxb.2
                have hm3 := hm2.1
                have hm4 := hm2.2
                have hx0 := hxb.1
                have hx1 := hxb.2
                by_cases hov : 4096 < z * (x + 1)
                · have hr := hide (hs5.out (ho.out.trans (over_hit hx hov)))
                  clear k hx hxb hm2 hmk
                  go_wp2_with fail
                  go_ret2
                  exact ⟨none, 0, ⟨0, by rw [hr.out]; rfl⟩, by omega, by rw [hr.out]; exact Sl.nil_, Below.refl _ _⟩
                · have hr := hide (ho.out.trans (over_step hx hov))
                  have hov' : z * (x + 1) ≤ 4096 := by omega
                  clear k hx hxb hm2 hov hmk
                  go_wp2_with fail
                  go_round
                  case rel => exact ⟨j + 1, z * (x + 1), by omega, by go_num, rfl, hm3, hov', hr⟩
                  case measure => simp [intOf]; omega
              · have hjq : j = q := by omega
                subst hjq
                have hr := hide (hs0.out (by rw [ho.out, List.drop_eq_nil_of_le (by rw [hkl.out]; exact Nat.le_refl _)]; simp [overF]))
                clear ho hs0 hs5
                have hz0' := made_zero w j
                have hb0 : Below w.heap.size w (w.alloc (.cells (madeCells #[.int .i64 0] j) 2)) := (Below.refl _ _).alloc (Nat.le_refl _) _
                have hzero : Hid (okV (List.replicate j 0) bs) := by
                  have h1 := okV_zero bs (fun x hx => (hbb.out x hx).1)
                  rw [hkl.out] at h1
                  exact h1
                obtain ⟨fin, hfin⟩ : ∃ fin, fin = iterN (updD a b) (goD a b) bs (restV (List.replicate j 0) bs) (List.replicate j 0) none := ⟨_, rfl⟩
                rw [← hfin] at hr
                replace hfin := hide hfin
                replace k := hide k
                go_wp2_with fail
                go_loopg [56] (restV (List.replicate j 0) bs) (fun N x wr => ∃ v : List Int, Hid (N = restV v bs) ∧ Hid (okV v bs) ∧ SlI wr w.heap.size (w.heap.size + 1) (some ⟨w.heap.size, 0, none⟩) j v ∧ Below w.heap.size w wr ∧ w.heap.size < wr.heap.size ∧ Hid (fin = iterN (updD a b) (goD a b) bs N v none))
                case atStart => exact ⟨List.replicate j 0, rfl, hzero, hz0', hb0, by simp, hfin⟩
                case round =>
                  obtain ⟨v, hN, hok, hv, hb, hgt, hf⟩ := hrel
                  have hpos := rest_pos hok.out
                  rw [← hN.out] at hpos
                  have hvb := okV_mem hok.out (fun x hx => (hbb.out x hx).2)
                  have r1 := l03Eval_calls A _ n n j j a v wr _ _ _ _ (h.out.below hb (.inr (Nat.le_refl _))) hv hq hc1.out hoa.out hvb
                  have r2 := l03Eval_calls B _ m m j j b v wr _ _ _ _ (g.out.below hb (.inr (Nat.le_refl _))) hv hq hc2.out hob.out hvb
                  have r3 := hide (l03Next_calls _ D j j j v bs wr _ _ _ _ hv (k.out.top.below hb (.inr (Nat.le_refl _))) (.inr (Nat.le_refl _)) hq hvb)
                  clear hvb hz0' hmk
                  by_cases he : (valOf v a == valOf v b) = true
                  · have hup : updD a b none v = none := if_pos he
                    have hgo : goD a b v = true := he
                    have hee : valOf v a = valOf v b := by simpa using he
                    rw [hee] at r1
                    generalize valOf v b = vb at r1 r2
                    replace r1 := hide r1
                    replace r2 := hide r2
                    clear he hee
                    go_wp2_with fail
                    refine r1.out.mono ?_
                    rintro e w1 ⟨rfl, rfl⟩
                    go_wp2_with fail
                    refine r2.out.mono ?_
                    rintro e w1 ⟨rfl, rfl⟩
                    go_wp2_with fail
                    cases hnx : nextV v bs with
                    | none =>
                      have hres : Hid (fin = none) := by
                        have h1 := hf.out.trans (iter_last hpos hnx)
                        rw [hup] at h1
                        exact h1
                      rw [hnx] at r3
                      replace hnx := hide hnx
                      replace hup := hide hup
                      replace hgo := hide hgo
                      clear hv
                      refine r3.out.mono ?_
                      rintro e w2 ⟨rfl, _, ho⟩
                      have hbf := Only.belowV hb ho (Nat.le_refl _) hb.size
                      clear ho
                      go_wp2_with fail
                      go_ret2
                      exact ⟨none, 0, 0, by rw [hr.out, hres.out]; rfl, by omega, by rw [hr.out, hres.out]; exact Sl.nil_, hbf⟩
                    | some v' =>
                      obtain ⟨hok2, hre2⟩ := next_ok hok.out hnx
                      obtain ⟨N2, rfl⟩ : ∃ N2, gk = N2 + 1 := ⟨gk - 1, by omega⟩
                      have hres : Hid (fin = iterN (updD a b) (goD a b) bs N2 v' none) := by
                        have h1 := hf.out.trans (iter_next hgo hnx)
                        rw [hup] at h1
                        exact h1
                      have hN2 : Hid (N2 = restV v' bs) := hide (by have := hN.out; omega)
                      replace hok2 := hide hok2
                      rw [hnx] at r3
                      replace hnx := hide hnx
                      replace hup := hide hup
                      replace hgo := hide hgo
                      clear hv hre2
                      refine r3.out.mono ?_
                      rintro e w2 ⟨rfl, hv2, ho⟩
                      have hbf := Only.belowV hb ho (Nat.le_refl _) hb.size
                      have hgt2 : w.heap.size < w2.heap.size := Nat.lt_of_lt_of_le hgt ho.size
                      replace hv2 := hide hv2
                      clear ho
                      go_wp2_with fail
                      go_roundg N2
                      case measure => omega
                      case rel => exact ⟨v', hN2, hok2, hv2.out, hbf, hgt2, hres⟩
                  · replace he := Bool.eq_false_iff.2 he
                    have hup : updD a b none v = some v := if_neg (by rw [he]; decide)
                    have hgo : goD a b v = false := he
                    have hne : (valOf v a != valOf v b) = true := by rw [bne, he]; rfl
                    have hres : Hid (fin = some v) := by
                      have h1 := hf.out.trans (iter_stop hpos hgo)
                      rw [hup] at h1
                      exact h1
                    generalize valOf v a = va at r1 hne
                    generalize valOf v b = vb at r2 hne
                    replace r1 := hide r1
                    replace r2 := hide r2
                    replace hup := hide hup
                    replace hgo := hide hgo
                    replace hv := hide hv
                    clear he r3
                    go_wp2_with fail
                    refine r1.out.mono ?_
                    rintro e w1 ⟨rfl, rfl⟩
                    go_wp2_with fail
                    refine r2.out.mono ?_
                    rintro e w1 ⟨rfl, rfl⟩
                    go_wp2_with fail
                    go_ret2
                    exact ⟨_, j, j, by rw [hr.out, hres.out]; rfl, hq, by rw [hr.out, hres.out]; exact hv.out.top, hb⟩
      · replace c3 := Bool.eq_false_iff.2 c3
        have hs : Hid (differingValuesF a b bs = ([], 2)) := by
          have h2 : boundsF bs [a, b] = 2 := by rw [hsb, if_pos (.inl c3)]
          rw [hsF (by rw [h2]; omega), h2]
          exact rfl
        rw [c3] at q3
        replace q3 := hide q3
        clear c1 c2 c3 h g k hkl hsb hsF q4 q5
        go_enter Try.func35, Try.ntmps35
        go_wp2_with (first | (go_at_call 56; (with_reducible refine q1.out.mono ?_); rintro e w' ⟨rfl, rfl⟩) | (go_at_call 56; (with_reducible refine q2.out.mono ?_); rintro e w' ⟨rfl, rfl⟩) | (go_at_call 75; (with_reducible refine hqm.out.mono ?_); rintro e w' ⟨rfl, rfl⟩) | (go_at_call 70; (with_reducible refine q3.out.mono ?_); rintro e w' ⟨rfl, rfl⟩))
        go_ret2
        exact ⟨_, _, _, by rw [hs.out]; rfl, by omega, by rw [hs.out]; exact Sl.nil_, Below.refl _ _⟩
    · replace c2 := Bool.eq_false_iff.2 c2
      rw [c2] at q2
      replace q2 := hide q2
      have hs : Hid (differingValuesF a b bs = ([], 1)) := if_pos (.inr c2)
      clear c1 c2 h g k hkl q3 qm
      go_enter Try.func35, Try.ntmps35
      go_wp2_with (first | (go_at_call 56; (with_reducible refine q1.out.mono ?_); rintro e w' ⟨rfl, rfl⟩) | (go_at_call 56; (with_reducible refine q2.out.mono ?_); rintro e w' ⟨rfl, rfl⟩))
      go_ret2
      exact ⟨_, _, _, by rw [hs.out]; rfl, by omega, by rw [hs.out]; exact Sl.nil_, Below.refl _ _⟩
  · replace c1 := Bool.eq_false_iff.2 c1
    rw [c1] at q1
    replace q1 := hide q1
    have hs : Hid (differingValuesF a b bs = ([], 1)) := if_pos (.inl c1)
    clear c1 h g k hkl q2 q3 qm
    go_enter Try.func35, Try.ntmps35
    go_wp2_with (first | (go_at_call 56; (with_reducible refine q1.out.mono ?_); rintro e w' ⟨rfl, rfl⟩))
    go_ret2
    exact ⟨_, _, _, by rw [hs.out]; rfl, by omega, by rw [hs.out]; exact Sl.nil_, Below.refl _ _⟩

end Go.Proofs.Ytdjhpdmpibokhaa
