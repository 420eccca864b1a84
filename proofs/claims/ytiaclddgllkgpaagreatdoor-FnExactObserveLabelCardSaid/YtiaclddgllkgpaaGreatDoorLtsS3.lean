/-
  The reference's test of a system, whole. Conditions: sizes.
-/
import Derived.Test.YtiaclddgllkgpaaGreatDoorLtsS2
namespace Go.Proofs.YtiaclddgllkgpaaGreatDoor
open Go.ChangeShapes Go.WideShapes Go.ChangeAt Go.RowKit Go.Sort
set_option linter.unusedVariables false

theorem mem_le_sum : ∀ {l : List Nat} {x : Nat}, x ∈ l → x ≤ l.sum
  | y :: l, x, h => by
    rw [List.sum_cons]
    rcases List.mem_cons.1 h with rfl | h
    · omega
    · have := mem_le_sum h
      omega

set_option maxRecDepth 100000 in
set_option maxHeartbeats 3200000 in
theorem l11Is_calls (bt : Nat) (x : CL) (d : DL) (w : World) (h : LtsAt w bt x d) :
    Calls Tryz.prog 111 #[.pointer (some ⟨bt, 0, none⟩)] w fun e w' => e = .returned (.bool (ltsV d)) ∧ Below w.heap.size w w' := by
  obtain ⟨s0, s1, v2, v3⟩ := x
  obtain ⟨st, ini, ls, es⟩ := d
  obtain ⟨⟨e0, e1, ⟨A2, n2, k2, e2, hn2, hs2, t2⟩, ⟨A3, n3, k3, e3, hn3, t3⟩⟩, htot, hbt, c0, c1, c2, c3⟩ := h
  dsimp only at *
  subst e0 e1 e2 e3
  have l2 := t2.len
  have l3 := t3.len
  have hls : ls.length ≤ 1048576 := Nat.le_trans (totL_lab (s0, s1, ls, es)) htot
  have hes : es.length ≤ 1048576 := Nat.le_trans (totL_edg (s0, s1, ls, es)) htot
  have hss : ∀ s ∈ ls, s.size ≤ 1048576 := fun s hs => by
    have h1 : s.size ≤ (ls.map (·.size)).sum := mem_le_sum (List.mem_map.2 ⟨s, hs, rfl⟩)
    simp only [totL, totS] at htot
    omega
  have hval := ltsV_eq s0 s1 ls es
  rw [l2, l3] at hval
  have q0 := same_regrown (w := w) (l00In_calls s0 1 40)
  have q1 := same_regrown (w := w) (l00In_calls s1 0 (s0 - 1))
  have q2 : ∀ d os, Calls Tryz.prog 152 #[.slice A2 n2 k2] (grow (redrawn w d) os) (fun e w'' => e = .returned (.bool (namesB ls)) ∧ ∃ p : Regrown, w'' = grow (redrawn w p.d) p.os) := fun d os => Calls.regrown_of (l11Names_calls A2 n2 k2 ls _ _ _ (t2.below (below_regrown w d os) (.inr (Nat.le_refl _))) (by omega) hss)
  have f0 := fun d os => cell_regrown c0 d os
  have f1 := fun d os => cell_regrown c1 d os
  have f2 := fun d os => cell_regrown c2 d os
  have f3 := fun d os => cell_regrown c3 d os
  generalize hB2 : namesB ls = B2 at *
  replace l2 := hide l2
  replace l3 := hide l3
  clear hls hes
  replace htot := hide htot
  replace hs2 := hide hs2
  replace hss := hide hss
  unfold maxLen at hn2 hn3
  cases z0 : inB s0 1 40 with
  | false =>
    rw [z0] at hval
    simp only [z0] at q0
    have hv : Hid (ltsV (s0, s1, ls, es) = false) := hval
    replace q0 := hide q0
    clear hval q1 q2 z0 hB2 t2 t3
    go_enter Tryz.func111, Tryz.ntmps111
    go_wp2
    refine wp_region_quiet_below (by kernel_rfl) (by kernel_rfl) ?_
    repeat (go_big_quiet_step (first | (with_reducible exact q0.out _ _)))
    refine wpQuiet_nil ?_
    intro _ hw'
    obtain ⟨⟨dq, osq⟩, hw''⟩ := hw'
    subst hw''
    have hbq := below_regrown w dq osq
    generalize grow (redrawn w dq) osq = wq at *
    go_wp2
    go_ret
    exact ⟨ret_b (by rw [hv.out]), hbq⟩
  | true =>
  have hst := inB_true.1 z0
  have hst1 := hst.1
  have hst2 := hst.2
  clear hst
  rw [z0] at hval
  simp only [z0] at q0
  replace q0 := hide q0
  cases z1 : inB s1 0 (s0 - 1) with
  | false =>
    rw [z1] at hval
    simp only [z1] at q1
    have hv : Hid (ltsV (s0, s1, ls, es) = false) := hval
    replace q1 := hide q1
    clear hval q2 z0 z1 hB2 t2 t3
    go_enter Tryz.func111, Tryz.ntmps111
    go_wp2
    refine wp_region_quiet_below (by kernel_rfl) (by kernel_rfl) ?_
    repeat (go_big_quiet_step (first | (with_reducible exact q0.out _ _) | (with_reducible exact q1.out _ _)))
    refine wpQuiet_nil ?_
    intro _ hw'
    obtain ⟨⟨dq, osq⟩, hw''⟩ := hw'
    subst hw''
    have hbq := below_regrown w dq osq
    generalize grow (redrawn w dq) osq = wq at *
    go_wp2
    go_ret
    exact ⟨ret_b (by rw [hv.out]), hbq⟩
  | true =>
  rw [z1] at hval
  simp only [z1] at q1
  replace q1 := hide q1
  cases B2 with
  | false =>
    have hv : Hid (ltsV (s0, s1, ls, es) = false) := hval
    replace q2 := hide q2
    clear hval z0 z1 hB2 t2 t3
    go_enter Tryz.func111, Tryz.ntmps111
    go_wp2
    refine wp_region_quiet_below (by kernel_rfl) (by kernel_rfl) ?_
    repeat (go_big_quiet_step (first | (with_reducible exact q0.out _ _) | (with_reducible exact q1.out _ _) | (with_reducible exact q2.out _ _)))
    refine wpQuiet_nil ?_
    intro _ hw'
    obtain ⟨⟨dq, osq⟩, hw''⟩ := hw'
    subst hw''
    have hbq := below_regrown w dq osq
    generalize grow (redrawn w dq) osq = wq at *
    go_wp2
    go_ret
    exact ⟨ret_b (by rw [hv.out]), hbq⟩
  | true =>
  replace q2 := hide q2
  by_cases h300 : n3 ≤ 300
  case neg =>
    rw [decide_eq_false h300] at hval
    have hv : Hid (ltsV (s0, s1, ls, es) = false) := hval
    have h3I : (300 : Int) < (n3 : Int) := by omega
    clear hval z0 z1 hB2 t2 t3
    go_enter Tryz.func111, Tryz.ntmps111
    go_wp2
    refine wp_region_quiet_below (by kernel_rfl) (by kernel_rfl) ?_
    repeat (go_big_quiet_step (first | (with_reducible exact q0.out _ _) | (with_reducible exact q1.out _ _) | (with_reducible exact q2.out _ _)))
    refine wpQuiet_nil ?_
    intro _ hw'
    obtain ⟨⟨dq, osq⟩, hw''⟩ := hw'
    subst hw''
    have hbq := below_regrown w dq osq
    generalize grow (redrawn w dq) osq = wq at *
    go_wp2
    go_ret
    exact ⟨ret_b (by rw [hv.out]), hbq⟩
  rw [decide_eq_true h300] at hval
  have hval2 : Hid (ltsV (s0, s1, ls, es) = allK (okEd s0 (n2 : Int) es) n3) := by show _ = _; rw [hval]; rfl
  have h3I : ¬ (300 : Int) < (n3 : Int) := by omega
  replace t3 := hide t3
  clear hval z0 z1 hB2 t2 htot hs2 hss
  go_enter Tryz.func111, Tryz.ntmps111
  go_wp2
  refine wp_region_quiet_below (by kernel_rfl) (by kernel_rfl) ?_
  repeat (go_big_quiet_step (first | (with_reducible exact q0.out _ _) | (with_reducible exact q1.out _ _) | (with_reducible exact q2.out _ _)))
  refine wpQuiet_nil ?_
  intro _ hw'
  obtain ⟨⟨dq, osq⟩, hw''⟩ := hw'
  subst hw''
  have hbq := below_regrown w dq osq
  generalize grow (redrawn w dq) osq = wq at *
  clear f0 f1 f2 f3 q0 q1 q2
  replace hbq := hide hbq
  have cc3 := (hbq.out.cell (p := ⟨bt, 3, none⟩) hbt).trans c3
  go_wp2
  go_loopw [3] (fun i wr => ∃ k : Nat, k ≤ n3 ∧ i = .int .i64 (k : Nat) ∧ Hid (∀ j, j < k → okEd s0 (n2 : Int) es j = true) ∧ Below w.heap.size w wr ∧ wr.cell? ⟨bt, 3, none⟩ = some (.slice A3 n3 k3)) (fun i _ => n3 - (intOf i).toNat)
  case atStart => exact ⟨0, Nat.zero_le _, rfl, fun j hj => absurd hj (by omega), hbq.out, cc3⟩
  case round =>
    obtain ⟨k, hk, rfl, ha, hb, y3⟩ := hrel
    clear cc3
    by_cases hlt : k < n3
    · obtain ⟨b, off, f, lb, tg, rfl, g1, g2, g3, hx, a0, a1, a2, -, -, -⟩ := SlE.get t3.out hlt
      replace a0 := (hb.cell g3).trans a0
      replace a1 := (hb.cell (p := ⟨b, off + k * 3 + 1, none⟩) g3).trans a1
      replace a2 := (hb.cell (p := ⟨b, off + k * 3 + 2, none⟩) g3).trans a2
      have hg := Nat.lt_of_lt_of_le g3 hb.size
      have hgt := Nat.lt_of_lt_of_le hbt hb.size
      have y0 := (hb.cell (p := ⟨bt, 0, none⟩) hbt).trans c0
      have y2 := (hb.cell (p := ⟨bt, 2, none⟩) hbt).trans c2
      have hbox : Below wr.heap.size wr (wr.alloc (.cells #[.int .i64 f, .int .i64 lb, .int .i64 tg] 86)) := (Below.refl _ _).alloc (Nat.le_refl _) _
      have kE := heap_alloc_new wr (.cells #[.int .i64 f, .int .i64 lb, .int .i64 tg] 86)
      have hzE : wr.heap.size < (wr.alloc (.cells #[.int .i64 f, .int .i64 lb, .int .i64 tg] 86)).heap.size := by rw [World.size_alloc]; omega
      have x0 := (hbox.cell (p := ⟨bt, 0, none⟩) hgt).trans y0
      have x2 := (hbox.cell (p := ⟨bt, 2, none⟩) hgt).trans y2
      have x3 := (hbox.cell (p := ⟨bt, 3, none⟩) hgt).trans y3
      have z0 : (wr.alloc (.cells #[.int .i64 f, .int .i64 lb, .int .i64 tg] 86)).cell? ⟨wr.heap.size, 0, none⟩ = some (.int .i64 f) := (cell_of_row _ _ 0 _ _ (0, 0) kE).trans rfl
      have z1 : (wr.alloc (.cells #[.int .i64 f, .int .i64 lb, .int .i64 tg] 86)).cell? ⟨wr.heap.size, 0 + 1, none⟩ = some (.int .i64 lb) := (cell_of_row _ _ 1 _ _ (0, 0) kE).trans rfl
      have z2 : (wr.alloc (.cells #[.int .i64 f, .int .i64 lb, .int .i64 tg] 86)).cell? ⟨wr.heap.size, 0 + 2, none⟩ = some (.int .i64 tg) := (cell_of_row _ _ 2 _ _ (0, 0) kE).trans rfl
      have hprev : 0 < k → ∃ r1 r2 r3, es[k - 1]? = some (r1, r2, r3) ∧ (wr.alloc (.cells #[.int .i64 f, .int .i64 lb, .int .i64 tg] 86)).cell? ⟨b, off + (k - 1) * 3, none⟩ = some (.int .i64 r1) ∧ (wr.alloc (.cells #[.int .i64 f, .int .i64 lb, .int .i64 tg] 86)).cell? ⟨b, off + (k - 1) * 3 + 1, none⟩ = some (.int .i64 r2) ∧ (wr.alloc (.cells #[.int .i64 f, .int .i64 lb, .int .i64 tg] 86)).cell? ⟨b, off + (k - 1) * 3 + 2, none⟩ = some (.int .i64 r3) := fun hk0 => by
        obtain ⟨b', off', r1, r2, r3, eA, -, -, -, hy, p0, p1, p2, -, -, -⟩ := SlE.get t3.out (show k - 1 < n3 by omega)
        cases eA
        exact ⟨r1, r2, r3, hy, (hbox.cell hg).trans ((hb.cell g3).trans p0), (hbox.cell (p := ⟨b, off + (k - 1) * 3 + 1, none⟩) hg).trans ((hb.cell (p := ⟨b, off + (k - 1) * 3 + 1, none⟩) g3).trans p1), (hbox.cell (p := ⟨b, off + (k - 1) * 3 + 2, none⟩) hg).trans ((hb.cell (p := ⟨b, off + (k - 1) * 3 + 2, none⟩) g3).trans p2)⟩
      replace hprev := hide hprev
      have hbw := hide (hb.trans (hbox.mono hb.size))
      have hgtW := Nat.lt_of_lt_of_le hgt hbox.size
      have hI0 : (0 : Int) ≤ (k : Int) := by omega
      have hI1 : (k : Int) < (n3 : Int) := by omega
      clear t3 hg g1 g2 g3 y0 y2 hb hbox kE c0 c1 c2 c3
      go_wp2
      clear a0 a1 a2 y3
      generalize hWE : (wr.alloc (.cells #[.int .i64 f, .int .i64 lb, .int .i64 tg] 86)) = WE at *
      generalize hbE : wr.heap.size = bE at *
      clear hWE hbE
      have r0 := same_regrown (w := WE) (l00In_calls f 0 (s0 - 1))
      have r1 := same_regrown (w := WE) (l00In_calls tg 0 (s0 - 1))
      have r2 := same_regrown (w := WE) (l00In_calls lb 0 ((n2 : Int) - 1))
      have f0 := fun d os => cell_regrown x0 d os
      have f2 := fun d os => cell_regrown x2 d os
      have u0 := fun d os => cell_regrown z0 d os
      have u1 := fun d os => cell_regrown z1 d os
      have u2 := fun d os => cell_regrown z2 d os
      simp only [Nat.zero_add] at u1 u2
      cases w0 : inB f 0 (s0 - 1) with
      | false =>
        have hv : Hid (ltsV (s0, s1, ls, es) = false) := by show _ = _; rw [hval2.out]; exact allK_bad hlt (okE_bad hx (by rw [w0]; rfl))
        simp only [w0] at r0
        replace r0 := hide r0
        clear r1 r2 w0 hx hprev ha
        refine wp_region_quiet_below (by kernel_rfl) (by kernel_rfl) ?_
        repeat (go_big_quiet_step (first | (with_reducible exact r0.out _ _)))
        refine wpQuiet_nil ?_
        intro _ hw'
        obtain ⟨⟨dq, osq⟩, hw''⟩ := hw'
        subst hw''
        have hbq := below_regrown WE dq osq
        generalize grow (redrawn WE dq) osq = wq at *
        go_wp2
        go_ret
        exact ⟨ret_b (by rw [hv.out]), hbw.out.trans (hbq.mono hbw.out.size)⟩
      | true =>
      simp only [w0] at r0
      replace r0 := hide r0
      cases w1 : inB tg 0 (s0 - 1) with
      | false =>
        have hv : Hid (ltsV (s0, s1, ls, es) = false) := by show _ = _; rw [hval2.out]; exact allK_bad hlt (okE_bad hx (by rw [w0, w1]; rfl))
        simp only [w1] at r1
        replace r1 := hide r1
        clear r2 w0 w1 hx hprev ha
        refine wp_region_quiet_below (by kernel_rfl) (by kernel_rfl) ?_
        repeat (go_big_quiet_step (first | (with_reducible exact r0.out _ _) | (with_reducible exact r1.out _ _)))
        refine wpQuiet_nil ?_
        intro _ hw'
        obtain ⟨⟨dq, osq⟩, hw''⟩ := hw'
        subst hw''
        have hbq := below_regrown WE dq osq
        generalize grow (redrawn WE dq) osq = wq at *
        go_wp2
        go_ret
        exact ⟨ret_b (by rw [hv.out]), hbw.out.trans (hbq.mono hbw.out.size)⟩
      | true =>
      simp only [w1] at r1
      replace r1 := hide r1
      cases w2 : inB lb 0 ((n2 : Int) - 1) with
      | false =>
        have hv : Hid (ltsV (s0, s1, ls, es) = false) := by show _ = _; rw [hval2.out]; exact allK_bad hlt (okE_bad hx (by rw [w0, w1, w2]; rfl))
        simp only [w2] at r2
        replace r2 := hide r2
        clear w0 w1 w2 hx hprev ha
        refine wp_region_quiet_below (by kernel_rfl) (by kernel_rfl) ?_
        repeat (go_big_quiet_step (first | (with_reducible exact r0.out _ _) | (with_reducible exact r1.out _ _) | (with_reducible exact r2.out _ _)))
        refine wpQuiet_nil ?_
        intro _ hw'
        obtain ⟨⟨dq, osq⟩, hw''⟩ := hw'
        subst hw''
        have hbq := below_regrown WE dq osq
        generalize grow (redrawn WE dq) osq = wq at *
        go_wp2
        go_ret
        exact ⟨ret_b (by rw [hv.out]), hbw.out.trans (hbq.mono hbw.out.size)⟩
      | true =>
      simp only [w2] at r2
      replace r2 := hide r2
      by_cases hk0 : 0 < k
      · obtain ⟨p1, p2, p3, hy, v0, v1, v2⟩ := hprev.out hk0
        have hok := okE_at (st := s0) (m := (n2 : Int)) hx hk0 hy
        rw [w0, w1, w2] at hok
        have hlI : (0 : Int) < (k : Int) := by omega
        have hlJ : decide ((0 : Int) < (k : Int)) = true := decide_eq_true hlI
        have hI4 : (1 : Int) ≤ (k : Int) := by omega
        have hI3 : (k : Int) - 1 < (n3 : Int) := by omega
        have hI5 : ((k : Int) - 1).toNat = k - 1 := by omega
        cases hls : edLess (p1, p2, p3) (f, lb, tg) with
        | true =>
          have hnext : Hid (∀ j, j < k + 1 → okEd s0 (n2 : Int) es j = true) := lt_succ_cases ha.out (by rw [hok, hls]; rfl)
          clear w0 w1 w2 hx hprev ha hok hy
          refine wp_region_quiet_below (by kernel_rfl) (by kernel_rfl) ?_
          repeat (go_big_quiet_step (first | (with_reducible exact r0.out _ _) | (with_reducible exact r1.out _ _) | (with_reducible exact r2.out _ _)))
          refine wpQuiet_nil ?_
          intro _ hw'
          obtain ⟨⟨dq, osq⟩, hw''⟩ := hw'
          subst hw''
          have hbq := below_regrown WE dq osq
          generalize grow (redrawn WE dq) osq = wq at *
          have l0 := (hbq.cell (p := ⟨b, off + (k - 1) * 3, none⟩) (block_lt_of_cell v0)).trans v0
          have l1 := (hbq.cell (p := ⟨b, off + (k - 1) * 3 + 1, none⟩) (block_lt_of_cell v1)).trans v1
          have l2' := (hbq.cell (p := ⟨b, off + (k - 1) * 3 + 2, none⟩) (block_lt_of_cell v2)).trans v2
          have m0 := (hbq.cell (p := ⟨bE, 0, none⟩) (block_lt_of_cell z0)).trans z0
          have m1 := (hbq.cell (p := ⟨bE, 0 + 1, none⟩) (block_lt_of_cell z1)).trans z1
          have m2 := (hbq.cell (p := ⟨bE, 0 + 2, none⟩) (block_lt_of_cell z2)).trans z2
          have m3 := (hbq.cell (p := ⟨bt, 3, none⟩) hgtW).trans x3
          have hbq2 := hide (hbw.out.trans (hbq.mono hbw.out.size))
          have ql := l11Less_calls b (off + (k - 1) * 3) bE 0 p1 p2 p3 f lb tg wq l0 l1 l2' m0 m1 m2
          rw [hls] at ql
          replace ql := hide ql
          clear f0 f2 u0 u1 u2 z0 z1 z2 x0 x2 v0 v1 v2 l0 l1 l2' m0 m1 m2 x3 hbq
          go_wp2_with (first | (go_at_call 153; (with_reducible refine ql.out.mono ?_); rintro e w9 ⟨rfl, mm, rfl⟩))
          go_roundw
          case rel => exact ⟨k + 1, by omega, by go_num, hnext, hbq2.out.trans (below_drewN wq mm |>.mono hbq2.out.size), m3⟩
          case measure => simp [intOf]; omega
        | false =>
          have hv : Hid (ltsV (s0, s1, ls, es) = false) := by show _ = _; rw [hval2.out]; exact allK_bad hlt (by rw [hok, hls]; rfl)
          clear w0 w1 w2 hx hprev ha hok hy
          refine wp_region_quiet_below (by kernel_rfl) (by kernel_rfl) ?_
          repeat (go_big_quiet_step (first | (with_reducible exact r0.out _ _) | (with_reducible exact r1.out _ _) | (with_reducible exact r2.out _ _)))
          refine wpQuiet_nil ?_
          intro _ hw'
          obtain ⟨⟨dq, osq⟩, hw''⟩ := hw'
          subst hw''
          have hbq := below_regrown WE dq osq
          generalize grow (redrawn WE dq) osq = wq at *
          have l0 := (hbq.cell (p := ⟨b, off + (k - 1) * 3, none⟩) (block_lt_of_cell v0)).trans v0
          have l1 := (hbq.cell (p := ⟨b, off + (k - 1) * 3 + 1, none⟩) (block_lt_of_cell v1)).trans v1
          have l2' := (hbq.cell (p := ⟨b, off + (k - 1) * 3 + 2, none⟩) (block_lt_of_cell v2)).trans v2
          have m0 := (hbq.cell (p := ⟨bE, 0, none⟩) (block_lt_of_cell z0)).trans z0
          have m1 := (hbq.cell (p := ⟨bE, 0 + 1, none⟩) (block_lt_of_cell z1)).trans z1
          have m2 := (hbq.cell (p := ⟨bE, 0 + 2, none⟩) (block_lt_of_cell z2)).trans z2
          have m3 := (hbq.cell (p := ⟨bt, 3, none⟩) hgtW).trans x3
          have hbq2 := hide (hbw.out.trans (hbq.mono hbw.out.size))
          have ql := l11Less_calls b (off + (k - 1) * 3) bE 0 p1 p2 p3 f lb tg wq l0 l1 l2' m0 m1 m2
          rw [hls] at ql
          replace ql := hide ql
          clear f0 f2 u0 u1 u2 z0 z1 z2 x0 x2 v0 v1 v2 l0 l1 l2' m0 m1 m2 x3 hbq
          go_wp2_with (first | (go_at_call 153; (with_reducible refine ql.out.mono ?_); rintro e w9 ⟨rfl, mm, rfl⟩))
          go_ret
          exact ⟨ret_b (by rw [hv.out]), hbq2.out.trans (below_drewN wq mm |>.mono hbq2.out.size)⟩
      · have hk00 : k = 0 := by omega
        subst hk00
        have hok := okE_zero (st := s0) (m := (n2 : Int)) hx
        rw [w0, w1, w2] at hok
        have hnext : Hid (∀ j, j < 0 + 1 → okEd s0 (n2 : Int) es j = true) := lt_succ_cases ha.out (by rw [hok]; rfl)
        clear w0 w1 w2 hx hprev ha hok
        refine wp_region_quiet_below (by kernel_rfl) (by kernel_rfl) ?_
        repeat (go_big_quiet_step (first | (with_reducible exact r0.out _ _) | (with_reducible exact r1.out _ _) | (with_reducible exact r2.out _ _)))
        refine wpQuiet_nil ?_
        intro _ hw'
        obtain ⟨⟨dq, osq⟩, hw''⟩ := hw'
        subst hw''
        have hbq := below_regrown WE dq osq
        generalize grow (redrawn WE dq) osq = wq at *
        have m3 := (hbq.cell (p := ⟨bt, 3, none⟩) hgtW).trans x3
        have hbq2 := hide (hbw.out.trans (hbq.mono hbw.out.size))
        clear f0 f2 u0 u1 u2 z0 z1 z2 x0 x2 x3
        go_wp2
        go_roundw
        case rel => exact ⟨0 + 1, by omega, by go_num, hnext, hbq2.out, m3⟩
        case measure => simp [intOf]; omega
    · have hkn : k = n3 := by omega
      subst hkn
      have hv : Hid (ltsV (s0, s1, ls, es) = true) := by show _ = _; rw [hval2.out]; exact allK_good ha.out
      go_wp2
      go_ret
      exact ⟨ret_b (by rw [hv.out]), hb⟩

end Go.Proofs.YtiaclddgllkgpaaGreatDoor
