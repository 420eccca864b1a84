/-
  ControlFault and IsControllable, by the program. Conditions: sizes.
-/
import Derived.Test.YtiaclddgllkgpaaGreatDoorTogI
import Derived.Test.YtiaclddgllkgpaaGreatDoorPrevU
namespace Go.Proofs.YtiaclddgllkgpaaGreatDoor
open Go.ChangeShapes Go.WideShapes Go.ChangeAt Go.RowKit Go.Sort
set_option linter.unusedVariables false
set_option linter.unusedSimpArgs false

theorem lab_full {s : ByteArray} (h : labS s = true) : s ≠ ⟨#[]⟩ := fun e => by
  subst e
  revert h
  decide
set_option maxRecDepth 100000 in
set_option maxHeartbeats 3200000 in
theorem implControlFault_u {v u : Value} {d : DP} {s : DL} {w : World} {lo hi lo' hi' : Nat} (he : Env w) (h : FreshP w lo hi v d) (hh : hi ≤ w.heap.size) (g : FreshL w lo' hi' u s) (gh : hi' ≤ w.heap.size) :
    Calls Tryz.prog 55 #[v, u] w fun e w' => ∃ u0, e = .returned (.tuple #[u0, .string (ctlF d s).2.1, .int .i64 (ctlF d s).2.2]) ∧ ResS w' w.heap.size w'.heap.size u0 (ctlF d s).1 ∧ Below w.heap.size w w' := by
  obtain ⟨⟨p0, p1, v2, v3⟩, A4, n4, k4, A5, n5, k5, rfl, hp⟩ := h.open_
  obtain ⟨⟨⟨r0, r1, u2, u3⟩, rfl, gL⟩, gt⟩ := g
  obtain ⟨⟨st, ini, ls, es⟩, vs, ns⟩ := d
  obtain ⟨st', ini', ms, fs⟩ := s
  have hp' := hp
  obtain ⟨hL, t4, t5, h4, h5, hs, ht⟩ := hp
  have e0 := hL.1
  have e1 := hL.2.1
  have f0 := gL.1
  have f1 := gL.2.1
  dsimp only at *
  subst e0 e1 f0 f1
  obtain ⟨A2, n2, k2, rfl, hn2, hs2, t2⟩ := hL.2.2.1
  obtain ⟨A3, n3, k3, rfl, hn3, t3⟩ := hL.2.2.2
  obtain ⟨B2, m2, j2, rfl, hm2, hs3, u2⟩ := gL.2.2.1
  obtain ⟨B3, m3, j3, rfl, hm3, u3⟩ := gL.2.2.2
  have hb0 : Below w.heap.size w ((w.alloc (.cells #[.int .i64 p0, .int .i64 p1, .slice A2 n2 k2, .slice A3 n3 k3, .slice A4 n4 k4, .slice A5 n5 k5] 44)).alloc (.cells #[.int .i64 r0, .int .i64 r1, .slice B2 m2 j2, .slice B3 m3 j3] 33)) := ((Below.refl _ _).alloc (Nat.le_refl _) _).alloc (by rw [World.size_alloc]; omega) _
  have k0 : ((w.alloc (.cells #[.int .i64 p0, .int .i64 p1, .slice A2 n2 k2, .slice A3 n3 k3, .slice A4 n4 k4, .slice A5 n5 k5] 44)).alloc (.cells #[.int .i64 r0, .int .i64 r1, .slice B2 m2 j2, .slice B3 m3 j3] 33)).heap[w.heap.size]? = some (.cells #[.int .i64 p0, .int .i64 p1, .slice A2 n2 k2, .slice A3 n3 k3, .slice A4 n4 k4, .slice A5 n5 k5] 44 (0, 0)) := (Below.heap_alloc _ _ _ (by rw [World.size_alloc]; omega)).trans (heap_alloc_new w _)
  have k1 : ((w.alloc (.cells #[.int .i64 p0, .int .i64 p1, .slice A2 n2 k2, .slice A3 n3 k3, .slice A4 n4 k4, .slice A5 n5 k5] 44)).alloc (.cells #[.int .i64 r0, .int .i64 r1, .slice B2 m2 j2, .slice B3 m3 j3] 33)).heap[w.heap.size + 1]? = some (.cells #[.int .i64 r0, .int .i64 r1, .slice B2 m2 j2, .slice B3 m3 j3] 33 (0, 0)) := by have h := heap_alloc_new (w.alloc (.cells #[.int .i64 p0, .int .i64 p1, .slice A2 n2 k2, .slice A3 n3 k3, .slice A4 n4 k4, .slice A5 n5 k5] 44)) (.cells #[.int .i64 r0, .int .i64 r1, .slice B2 m2 j2, .slice B3 m3 j3] 33); rw [World.size_alloc] at h; exact h
  have hz : w.heap.size + 1 < ((w.alloc (.cells #[.int .i64 p0, .int .i64 p1, .slice A2 n2 k2, .slice A3 n3 k3, .slice A4 n4 k4, .slice A5 n5 k5] 44)).alloc (.cells #[.int .i64 r0, .int .i64 r1, .slice B2 m2 j2, .slice B3 m3 j3] 33)).heap.size := by rw [World.size_alloc, World.size_alloc]; omega
  have hLW := hL.below hb0 (.inr (Nat.le_refl _))
  have gLW := gL.below hb0 (.inr (Nat.le_refl _))
  have t4W := t4.below hb0 (.inr (Nat.le_refl _))
  have t5W := t5.below hb0 (.inr (Nat.le_refl _))
  have t2W := hide (t2.below hb0 (.inr (Nat.le_refl _)))
  have t3W := hide (t3.below hb0 (.inr (Nat.le_refl _)))
  have u2W := hide (u2.below hb0 (.inr (Nat.le_refl _)))
  have u3W := hide (u3.below hb0 (.inr (Nat.le_refl _)))
  have heW := he.below hb0 (Nat.le_refl _)
  have hz' := hb0.size
  have hes : n3 ≤ 1048576 := by rw [← t3.len]; exact Nat.le_trans (totL_edg (p0, p1, ls, es)) ht
  have hfs : m3 ≤ 1048576 := by rw [← u3.len]; exact Nat.le_trans (totL_edg (r0, r1, ms, fs)) gt
  have hms : m2 ≤ 1048576 := by rw [← u2.len]; exact Nat.le_trans (totL_lab (r0, r1, ms, fs)) gt
  replace hs2 := hide hs2
  replace hb0 := hide hb0
  clear hL gL t4 t5 h hp' he t2 t3 u2 u3 hn2 hn3 hm2 hm3 hs3
  go_enter Tryz.func55, Tryz.ntmps55
  go_upto_region 1 with fail
  generalize ((w.alloc (.cells #[.int .i64 p0, .int .i64 p1, .slice A2 n2 k2, .slice A3 n3 k3, .slice A4 n4 k4, .slice A5 n5 k5] 44)).alloc (.cells #[.int .i64 r0, .int .i64 r1, .slice B2 m2 j2, .slice B3 m3 j3] 33)) = W0 at *
  generalize hbm : w.heap.size = bm at *
  have hbmz : bm < W0.heap.size := by omega
  have c0 : W0.cell? ⟨bm, 0, none⟩ = some (.int .i64 p0) := (cell_of_row _ _ 0 _ _ (0, 0) k0).trans rfl
  have c1 : W0.cell? ⟨bm, 1, none⟩ = some (.int .i64 p1) := (cell_of_row _ _ 1 _ _ (0, 0) k0).trans rfl
  have c2 : W0.cell? ⟨bm, 2, none⟩ = some (.slice A2 n2 k2) := (cell_of_row _ _ 2 _ _ (0, 0) k0).trans rfl
  have c3 : W0.cell? ⟨bm, 3, none⟩ = some (.slice A3 n3 k3) := (cell_of_row _ _ 3 _ _ (0, 0) k0).trans rfl
  have c4 : W0.cell? ⟨bm, 4, none⟩ = some (.slice A4 n4 k4) := (cell_of_row _ _ 4 _ _ (0, 0) k0).trans rfl
  have c5 : W0.cell? ⟨bm, 5, none⟩ = some (.slice A5 n5 k5) := (cell_of_row _ _ 5 _ _ (0, 0) k0).trans rfl
  have d0 : W0.cell? ⟨bm + 1, 0, none⟩ = some (.int .i64 r0) := (cell_of_row _ _ 0 _ _ (0, 0) k1).trans rfl
  have d1 : W0.cell? ⟨bm + 1, 1, none⟩ = some (.int .i64 r1) := (cell_of_row _ _ 1 _ _ (0, 0) k1).trans rfl
  have d2 : W0.cell? ⟨bm + 1, 2, none⟩ = some (.slice B2 m2 j2) := (cell_of_row _ _ 2 _ _ (0, 0) k1).trans rfl
  have d3 : W0.cell? ⟨bm + 1, 3, none⟩ = some (.slice B3 m3 j3) := (cell_of_row _ _ 3 _ _ (0, 0) k1).trans rfl
  have hbA : Below W0.heap.size W0 (W0.alloc (.cells #[.int .i64 r0, .int .i64 r1, .slice B2 m2 j2, .slice B3 m3 j3] 33)) := (Below.refl _ _).alloc (Nat.le_refl _) _
  have kA := heap_alloc_new W0 (.cells #[.int .i64 r0, .int .i64 r1, .slice B2 m2 j2, .slice B3 m3 j3] 33)
  have hpA : PlantAt (W0.alloc (.cells #[.int .i64 r0, .int .i64 r1, .slice B2 m2 j2, .slice B3 m3 j3] 33)) lo hi (p0, p1, .slice A2 n2 k2, .slice A3 n3 k3) A4 n4 k4 A5 n5 k5 ((p0, p1, ls, es), vs, ns) :=
    ⟨hLW.below hbA (.inr (Nat.le_refl _)), t4W.below hbA (.inr (Nat.le_refl _)), t5W.below hbA (.inr (Nat.le_refl _)), h4, h5, hs, ht⟩
  have qa := plantCode_calls (p0, p1, .slice A2 n2 k2, .slice A3 n3 k3) A4 n4 k4 A5 n5 k5 ((p0, p1, ls, es), vs, ns) (r0, r1, .slice B2 m2 j2, .slice B3 m3 j3) (r0, r1, ms, fs) W0.heap.size 1 _ lo hi lo' hi' hpA kA (gLW.below hbA (.inr (Nat.le_refl _))) gt (heW.below hbA (Nat.le_refl _))
  replace hbA := hide hbA
  replace t5W := hide t5W
  replace heW := hide heW
  clear kA hpA hLW gLW t4W k0 k1 h4 hs
  cases hv12 : (plantV ((p0, p1, ls, es), vs, ns) && detV (r0, r1, ms, fs)) with
  | false =>
    have hval : Hid (ctlF ((p0, p1, ls, es), vs, ns) (r0, r1, ms, fs) = ([], ⟨#[]⟩, 1)) := by show _ = _; unfold ctlF; rw [if_neg (by rw [hv12]; decide)]
    rw [hv12, if_neg (by decide)] at qa
    replace qa := hide qa
    clear t2W t3W u2W u3W t5W heW hv12
    go_wp2_with fail
    refine qa.out.mono ?_
    rintro e w1 ⟨rfl, hb⟩
    have hbw := hide (hbA.out.trans (hb.mono hbA.out.size))
    clear hb
    go_wp2_with fail
    go_ret3
    exact ⟨_, by rw [hval.out]; rfl, by rw [hval.out]; exact resS_nil' _ _ _, by first | exact hb0.out.trans (hbw.out.mono hz') | (rw [hbm]; exact hb0.out.trans (hbw.out.mono hz'))⟩
  | true =>
  have hval : ctlF ((p0, p1, ls, es), vs, ns) (r0, r1, ms, fs) = (match fauR (ctlB ns) (p0, p1, ls, es) (r0, r1, ms, fs) (allR (p0, p1, ls, es) (r0, r1, ms, fs)) with | some (path, lab) => (path, lab, 0) | none => ([], ⟨#[]⟩, 3)) := by
    unfold ctlF
    rw [if_pos hv12]
    rfl
  rw [hv12, if_pos rfl] at qa
  rw [Bool.and_eq_true] at hv12
  have hdp : detV (p0, p1, ls, es) = true := by
    have h1 := hv12.1
    unfold plantV at h1
    rw [Bool.and_eq_true] at h1
    exact h1.1
  have hds := hide hv12.2
  have hbp := lts_boundsA (det_ltsA hdp)
  have hbs := lts_boundsA (det_ltsA hv12.2)
  have hgood := hide (allR_good (p := (p0, p1, ls, es)) (s := (r0, r1, ms, fs)) hdp hv12.2 (by have := hbp.2; show 0 ≤ p1 ∧ p1 < p0; omega) (by have := hbs.2; show 0 ≤ r1 ∧ r1 < r0; omega))
  have hlen16 : Hid ((allR (p0, p1, ls, es) (r0, r1, ms, fs)).length ≤ 1600) := hgood.out.len hbp.1.2 hbs.1.2
  have hpath := hide (allR_path (r0, r1, ms, fs) hdp)
  have htotS : Hid (totS ls ≤ 1048576) := by have h9 : totL (p0, p1, ls, es) ≤ 1048576 := by omega
                                             unfold totL at h9; dsimp only at h9; show _ ≤ _; omega
  have hdp' := hide hdp
  replace qa := hide qa
  replace hval := hide hval
  clear hv12 hdp hbp hbs
  go_wp2_with fail
  refine qa.out.mono ?_
  rintro e w1 ⟨rfl, hb⟩
  have hbw := hbA.out.trans (hb.mono hbA.out.size)
  have a0 := (hbw.cell (p := ⟨bm, 0, none⟩) hbmz).trans c0
  have a1 := (hbw.cell (p := ⟨bm, 1, none⟩) hbmz).trans c1
  have a2 := (hbw.cell (p := ⟨bm, 2, none⟩) hbmz).trans c2
  have a3 := (hbw.cell (p := ⟨bm, 3, none⟩) hbmz).trans c3
  have a4 := (hbw.cell (p := ⟨bm, 4, none⟩) hbmz).trans c4
  have a5 := (hbw.cell (p := ⟨bm, 5, none⟩) hbmz).trans c5
  have b0 := (hbw.cell (p := ⟨bm + 1, 0, none⟩) hz).trans d0
  have b1 := (hbw.cell (p := ⟨bm + 1, 1, none⟩) hz).trans d1
  have b2 := (hbw.cell (p := ⟨bm + 1, 2, none⟩) hz).trans d2
  have b3 := (hbw.cell (p := ⟨bm + 1, 3, none⟩) hz).trans d3
  have hbm1 : bm ≤ w1.heap.size := by have := hbw.size; omega
  have hi1 : hi ≤ w1.heap.size := by have := hbw.size; omega
  have hi1' : hi' ≤ w1.heap.size := by have := hbw.size; omega
  have qg := hide (goTogether_calls p0 p1 r0 r1 A2 A3 A4 A5 B2 B3 n2 k2 n3 k3 n4 k4 n5 k5 m2 j2 m3 j3 ls ms es fs w1 lo hi lo' hi' (t2W.out.below hbw (.inr (Nat.le_refl _))) (t3W.out.below hbw (.inr (Nat.le_refl _))) hi1 (u2W.out.below hbw (.inr (Nat.le_refl _))) (u3W.out.below hbw (.inr (Nat.le_refl _))) hi1' hes hfs hms hdp'.out hds.out)
  replace hbw := hide hbw
  clear hb qa hbA c0 c1 c2 c3 c4 c5 d0 d1 d2 d3
  go_wp2_with fail
  refine qg.out.mono ?_
  rintro e w2 ⟨X, M, nn, c, d, A, C, G, H, rfl, hT, hb2⟩
  have hbw2 := hbw.out.trans (hb2.mono hbw.out.size)
  have hnn := hide hT.len
  have hn16 : nn ≤ 1600 := by rw [← hnn.out]; exact hlen16.out
  have hlt2 := hT.lt
  have f10 := hT.f10
  have f12 := hT.f12
  have hbs2 := hbw2.size
  replace hbw2 := hide hbw2
  replace hT := hide hT
  clear qg hb2 a0 a1 a2 a3 a4 a5 b0 b1 b2 b3
  go_upto_region 6 with fail
  go_loopw [27] (fun i wr => ∃ k : Nat, k ≤ nn ∧ i = .int .i64 (k : Nat) ∧ Hid (fauR (ctlB ns) (p0, p1, ls, es) (r0, r1, ms, fs) ((allR (p0, p1, ls, es) (r0, r1, ms, fs)).drop k) = fauR (ctlB ns) (p0, p1, ls, es) (r0, r1, ms, fs) (allR (p0, p1, ls, es) (r0, r1, ms, fs))) ∧ Below w2.heap.size w2 wr) (fun i _ => nn - (intOf i).toNat)
  case atStart => exact ⟨0, Nat.zero_le _, rfl, rfl, Below.refl _ _⟩
  case round =>
    obtain ⟨k, hk, rfl, hd, hbr⟩ := hrel
    have y12 := (hbr.cell (p := ⟨X, 12, none⟩) hlt2).trans f12
    by_cases hlt : k < nn
    · obtain ⟨q, hq⟩ : ∃ q, (allR (p0, p1, ls, es) (r0, r1, ms, fs))[k]? = some q := ⟨_, List.getElem?_eq_getElem (by rw [hnn.out]; exact hlt)⟩
      have hTr := hT.out.below hbr
      obtain ⟨br, or_, gg, rfl, gbr, -, hGk, lgg, f4, -, -⟩ := hTr.gp.at_ (k := k) (q := q.1) (by rw [hTr.eq, List.getElem?_map, hq]; rfl)
      obtain ⟨bq, oq, Ah, nh, ch, rfl, -, gbq, -, pq, hoq⟩ := hTr.ps.at_ (k := k) (l := q.2) (by rw [hTr.eqp, List.getElem?_map, hq]; rfl)
      have kP := (hTr.gp.rows _ (List.mem_of_getElem? hGk)).2
      obtain ⟨hAt, hc4, hc5⟩ := hTr.at_
      have hbX := hbw2.out.trans (hbr.mono hbs2)
      have qf := fault_calls X p0 p1 r0 r1 A2 A3 B2 B3 A4 A5 n2 k2 n3 k3 m2 j2 m3 j3 n4 k4 n5 k5 ls ms ns es fs (some ⟨gg, 0, none⟩) 2 q.1.1 q.1.2 wr lo hi lo' hi' 0 wr.heap.size hAt hc4 hc5 (t2W.out.below hbX (.inr (Nat.le_refl _))) (t3W.out.below hbX (.inr (Nat.le_refl _))) (t5W.out.below hbX (.inr (Nat.le_refl _))) (u2W.out.below hbX (.inr (Nat.le_refl _))) (u3W.out.below hbX (.inr (Nat.le_refl _)))
        hes hfs hms h5 htotS.out (heW.out.below hbX (Nat.le_refl _)) (Sl.pair kP (Nat.zero_le _) lgg) hdp'.out hds.out
      have hat := fauR_at (ctl := ctlB ns) (p := (p0, p1, ls, es)) (s := (r0, r1, ms, fs)) hq
      have hI0 : (0 : Int) ≤ (k : Int) := by omega
      have hI1 : (k : Int) < (nn : Int) := by omega
      have hbrs := hbr.size
      have hp2 := hide (hpath.out k q hq)
      have hbm2 : bm ≤ w2.heap.size := by omega
      replace hbr := hide hbr
      replace hbX := hide hbX
      replace hoq := hide hoq
      cases hfl : fauL (ctlB ns) (p0, p1, ls, es) (r0, r1, ms, fs) (q.1.1, q.1.2) with
      | none =>
        have hn2 : Hid (fauR (ctlB ns) (p0, p1, ls, es) (r0, r1, ms, fs) ((allR (p0, p1, ls, es) (r0, r1, ms, fs)).drop (k + 1)) = fauR (ctlB ns) (p0, p1, ls, es) (r0, r1, ms, fs) (allR (p0, p1, ls, es) (r0, r1, ms, fs))) := by
          show _ = _
          rw [← hd.out, hat, show q.1 = (q.1.1, q.1.2) from rfl, hfl]
        rw [hfl] at qf
        replace qf := hide qf
        clear hd hat hfl hq hGk hTr kP hAt hc4 hc5 pq hoq
        go_wp2_with fail
        refine qf.out.mono ?_
        rintro e w5 ⟨rfl, hb5⟩
        have hbz := hide (hbr.out.trans (hb5.mono hbrs))
        clear hb5 y12
        go_wp2_with fail
        go_roundw
        case rel => exact ⟨k + 1, by omega, by go_num, hn2, hbz.out⟩
        case measure => simp [intOf]; omega
      | some lab =>
        have hv : Hid (ctlF ((p0, p1, ls, es), vs, ns) (r0, r1, ms, fs) = (q.2, lab, 0)) := by
          show _ = _
          rw [hval.out, ← hd.out, hat, show q.1 = (q.1.1, q.1.2) from rfl, hfl]
        have hlab : labS lab = true := by
          unfold fauL at hfl
          exact prv_lab hdp'.out _ _ _ lab (List.mem_of_find?_eq_some hfl)
        have hne1 : lab ≠ ⟨#[]⟩ := lab_full hlab
        have hne2 : ¬ lab.toList = [] := by
          obtain ⟨⟨x⟩⟩ := lab
          have e1 : (ByteArray.mk ⟨x⟩).toList = x := ByteArray.toList_mk x
          rw [e1]
          intro e
          exact hne1 (by rw [e])
        have hne3 : (lab.toList == []) = false := by rw [beq_eq_false_iff_ne]; exact hne2
        have hne4 : lab.toList.isEmpty = false := by cases h9 : lab.toList with | nil => exact absurd h9 hne2 | cons a t => rfl
        rw [hfl] at qf
        replace qf := hide qf
        clear hd hat hfl hq hGk hTr kP hAt hc4 hc5 hlab
        go_wp2_with fail
        refine qf.out.mono ?_
        rintro e w5 ⟨rfl, hb5⟩
        have y5 := (hb5.cell (p := ⟨X, 12, none⟩) (Nat.lt_of_lt_of_le hlt2 hbrs)).trans y12
        have p5 := (hb5.cell (p := ⟨bq, oq + k, none⟩) gbq).trans pq
        have hbz := hbX.out.trans (hb5.mono hbX.out.size)
        have hoq5 := hoq.out.below hb5 (Nat.le_refl _)
        have hnh := hoq5.len
        have hR5 : Hid (ResS w5 bm w5.heap.size (.slice Ah nh ch) q.2) := by
          have h2 := hp2.out
          exact ⟨⟨Ah, nh, ch, rfl, by unfold maxLen; omega, fun s hs => hs2.out s (h2.2 s hs), (hoq5.sl flat_strv).more (by omega) (Nat.le_refl _)⟩, by omega⟩
        replace hbz := hide hbz
        clear hb5 hoq5 hoq y12 pq
        go_wp2_with fail
        go_ret3
        exact ⟨_, by rw [hv.out]; rfl, by rw [hv.out]; first | exact hR5.out | (rw [hbm]; exact hR5.out), by first | exact hb0.out.trans (hbz.out.mono hz') | (rw [hbm]; exact hb0.out.trans (hbz.out.mono hz'))⟩
    · have hkn : k = nn := by omega
      have hv : Hid (ctlF ((p0, p1, ls, es), vs, ns) (r0, r1, ms, fs) = ([], ⟨#[]⟩, 3)) := by
        show _ = _
        rw [hval.out, ← hd.out, List.drop_eq_nil_of_le (by rw [hnn.out]; omega)]
        rfl
      have hbz := hide (hbw2.out.trans (hbr.mono hbs2))
      clear hd hbr
      go_wp2_with fail
      go_ret3
      exact ⟨_, by rw [hv.out]; rfl, by rw [hv.out]; exact resS_nil' _ _ _, by first | exact hb0.out.trans (hbz.out.mono hz') | (rw [hbm]; exact hb0.out.trans (hbz.out.mono hz'))⟩

end Go.Proofs.YtiaclddgllkgpaaGreatDoor
