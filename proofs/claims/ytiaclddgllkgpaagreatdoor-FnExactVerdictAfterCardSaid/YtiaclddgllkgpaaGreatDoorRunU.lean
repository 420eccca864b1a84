/-
  RunMonitor, by the reference and by the program. Conditions: sizes.
-/
import Derived.Test.YtiaclddgllkgpaaGreatDoorRunMath
import Derived.Test.YtiaclddgllkgpaaGreatDoorObsU
import Derived.Test.YtiaclddgllkgpaaGreatDoorBaseD
import Derived.StillTailTactics
namespace Go.Proofs.YtiaclddgllkgpaaGreatDoor
open Go.ChangeShapes Go.WideShapes Go.ChangeAt Go.RowKit Go.Sort
set_option linter.unusedVariables false
set_option linter.unusedSimpArgs false

/-- A list of labels that was copied, taken apart. -/
structure TraceAt (w : World) (lo hi : Nat) (A : Option Addr) (n : Nat) (tr : List ByteArray) : Prop where
  sl : SlS w lo hi A n tr
  len : n ≤ 1048576
  each : ∀ s ∈ tr, s.size ≤ 1048576
theorem TraceAt.below {w w' : World} {lo hi B n : Nat} {A : Option Addr} {tr : List ByteArray} (h : TraceAt w lo hi A n tr) (hb : Below B w w') (hB : hi ≤ B ∨ w.heap.size ≤ B) : TraceAt w' lo hi A n tr := ⟨h.sl.below hb hB, h.len, h.each⟩
theorem sum_mem : ∀ {l : List Nat} {x : Nat}, x ∈ l → x ≤ l.sum
  | [], _, h => by cases h
  | a :: l, x, h => by
    rw [List.sum_cons]
    rcases List.mem_cons.1 h with rfl | h
    · omega
    · have := sum_mem h; omega
theorem FreshS.open_ {v : Value} {tr : List ByteArray} {w : World} {lo hi : Nat} (h : ArgS w lo hi v tr) (ht : totS tr ≤ 1048576) : ∃ A n c, v = .slice A n c ∧ TraceAt w lo hi A n tr := by
  obtain ⟨A, n, c, rfl, h1, h2, h3⟩ := h
  have hl := h3.len
  unfold totS at ht
  refine ⟨A, n, c, rfl, h3, by omega, fun s hs => ?_⟩
  have h5 : s.size ≤ (tr.map (·.size)).sum := sum_mem (List.mem_map.2 ⟨s, hs, rfl⟩)
  omega

theorem monitorCode_calls (s0 s1 : Int) (v2 v3 : Value) (A4 : Option Addr) (n4 k4 : Nat) (d : DL) (vs : List Int) (A : Option Addr) (n c : Nat) (tr : List ByteArray) (w : World) (lo hi lo' hi' : Nat)
    (hL : ReadL w lo hi (s0, s1, v2, v3) d) (t4 : SlI w lo hi A4 n4 vs) (hn4 : n4 ≤ 1048576) (ht : totL d ≤ 1048576) (hT : TraceAt w lo' hi' A n tr) (he : Env w) :
    Calls Tryz.prog 80 #[.agg #[.int .i64 s0, .int .i64 s1, v2, v3, .slice A4 n4 k4], .slice A n c] w fun e w' => e = .returned (.int .i64 (if monV (d, vs) = true then (if visB tr = true then 0 else 2) else 1)) ∧ Below w.heap.size w w' := by
  have hb0 : Below w.heap.size w (w.alloc (.cells #[.int .i64 s0, .int .i64 s1, v2, v3, .slice A4 n4 k4] 35)) := (Below.refl _ _).alloc (Nat.le_refl _) _
  have qa := mon_calls (s0, s1, v2, v3) A4 n4 k4 d vs _ lo hi (hL.below hb0 (.inr (Nat.le_refl _))) (t4.below hb0 (.inr (Nat.le_refl _))) hn4 ht (he.below hb0 (Nat.le_refl _))
  have qb := fun W (hW : Below w.heap.size w W) => areVisible_calls A n c tr W lo' hi' (hT.sl.below hW (.inr (Nat.le_refl _))) hT.len hT.each (he.below hW (Nat.le_refl _))
  obtain ⟨e0, e1, ⟨A2, n2, k2, e2, hn2, hs2, t2⟩, ⟨A3, n3, k3, e3, hn3, t3⟩⟩ := hL
  dsimp only at *
  subst e2 e3
  have hz : w.heap.size ≤ (w.alloc (.cells #[.int .i64 s0, .int .i64 s1, .slice A2 n2 k2, .slice A3 n3 k3, .slice A4 n4 k4] 35)).heap.size := hb0.size
  replace hb0 := hide hb0
  clear t2 t3 t4 hT he e0 e1
  cases hm : monV (d, vs) with
  | false =>
    rw [hm] at qa
    replace qa := hide qa
    clear qb hm
    go_enter Tryz.func80, Tryz.ntmps80
    go_wp2_with fail
    refine qa.out.mono ?_
    rintro e w1 ⟨rfl, hb⟩
    replace hb := hide hb
    go_wp2_with fail
    go_ret
    exact ⟨rfl, hb0.out.trans (hb.out.mono hz)⟩
  | true =>
  rw [hm] at qa
  replace qa := hide qa
  cases hv : visB tr with
  | false =>
    simp only [hv] at qb
    replace qb := hide qb
    clear hm hv
    go_enter Tryz.func80, Tryz.ntmps80
    go_wp2_with fail
    refine qa.out.mono ?_
    rintro e w1 ⟨rfl, hb⟩
    have hbw := hb0.out.trans (hb.mono hz)
    have qb1 := hide (qb.out _ hbw)
    replace hbw := hide hbw
    clear hb
    go_wp2_with fail
    refine qb1.out.mono ?_
    rintro e w2 ⟨rfl, hb2⟩
    have hbx := hide (hbw.out.trans (hb2.mono hbw.out.size))
    clear hb2
    go_wp2_with fail
    go_ret
    exact ⟨rfl, hbx.out⟩
  | true =>
    simp only [hv] at qb
    replace qb := hide qb
    clear hm hv
    go_enter Tryz.func80, Tryz.ntmps80
    go_wp2_with fail
    refine qa.out.mono ?_
    rintro e w1 ⟨rfl, hb⟩
    have hbw := hb0.out.trans (hb.mono hz)
    have qb1 := hide (qb.out _ hbw)
    replace hbw := hide hbw
    clear hb
    go_wp2_with fail
    refine qb1.out.mono ?_
    rintro e w2 ⟨rfl, hb2⟩
    have hbx := hide (hbw.out.trans (hb2.mono hbw.out.size))
    clear hb2
    go_wp2_with fail
    go_ret
    exact ⟨rfl, hbx.out⟩

set_option maxRecDepth 100000 in
set_option maxHeartbeats 1600000 in
theorem specRunMonitor_u {v u : Value} {d : DM} {tr : List ByteArray} {w : World} {lo hi lo' hi' : Nat} (he : Env w) (h : FreshM w lo hi v d) (hh : hi ≤ w.heap.size) (g : FreshSS w lo' hi' u tr) (gh : hi' ≤ w.heap.size) :
    Calls Tryz.prog 35 #[v, u] w fun e w' => e = .returned (.tuple #[.int .i64 (runF d tr).1, .int .i64 (runF d tr).2.1, .int .i64 (runF d tr).2.2]) ∧ Below w.heap.size w w' := by
  obtain ⟨⟨s0, s1, v2, v3⟩, A4, n4, k4, rfl, hL, t4, hn4, htot⟩ := h.open_
  obtain ⟨A, n, c, rfl, hT⟩ := FreshS.open_ g.1 g.2
  obtain ⟨⟨st, ini, ls, es⟩, vs⟩ := d
  have e0 := hL.1
  have e1 := hL.2.1
  dsimp only at *
  subst e0 e1
  have hb0 : Below w.heap.size w (w.alloc (.cells #[.int .i64 s0, .int .i64 s1, v2, v3, .slice A4 n4 k4] 35)) := (Below.refl _ _).alloc (Nat.le_refl _) _
  have k0 := heap_alloc_new w (.cells #[.int .i64 s0, .int .i64 s1, v2, v3, .slice A4 n4 k4] 35)
  have hz : w.heap.size < (w.alloc (.cells #[.int .i64 s0, .int .i64 s1, v2, v3, .slice A4 n4 k4] 35)).heap.size := by rw [World.size_alloc]; omega
  replace hT := hT.below hb0 (.inr (Nat.le_refl _))
  have hLW := (hL.below hb0 (.inr (Nat.le_refl _))).more (Nat.zero_le _) (Nat.le_of_lt (Nat.lt_of_le_of_lt hh hz))
  have t4W := (t4.below hb0 (.inr (Nat.le_refl _))).more (Nat.zero_le _) (Nat.le_of_lt (Nat.lt_of_le_of_lt hh hz))
  have hz' := Nat.le_of_lt hz
  replace hb0 := hide hb0
  clear hL t4 h g
  go_enter Tryz.func35, Tryz.ntmps35
  go_upto_region 1 with fail
  generalize (w.alloc (.cells #[.int .i64 s0, .int .i64 s1, v2, v3, .slice A4 n4 k4] 35)) = W0 at *
  have hat : LtsAt W0 w.heap.size (s0, s1, v2, v3) (s0, s1, ls, es) :=
    ⟨hLW, by omega, hz, (cell_of_row _ _ 0 _ _ (0, 0) k0).trans rfl, (cell_of_row _ _ 1 _ _ (0, 0) k0).trans rfl, (cell_of_row _ _ 2 _ _ (0, 0) k0).trans rfl, (cell_of_row _ _ 3 _ _ (0, 0) k0).trans rfl⟩
  have c1 : W0.cell? ⟨w.heap.size, 1, none⟩ = some (.int .i64 s1) := (cell_of_row _ _ 1 _ _ (0, 0) k0).trans rfl
  have hc4 : W0.cell? ⟨w.heap.size, 4, none⟩ = some (.slice A4 n4 k4) := (cell_of_row _ _ 4 _ _ (0, 0) k0).trans rfl
  have qa := l30Is_calls w.heap.size (s0, s1, v2, v3) A4 n4 k4 (s0, s1, ls, es) vs _ hat hc4 hn4 t4W
  have qb := fun W (hW : Below W0.heap.size W0 W) => l12Visible_calls A n c tr W lo' hi' (hT.sl.below hW (.inr (Nat.le_refl _))) hT.len hT.each
  generalize hbm : w.heap.size = bm at *
  clear hLW k0
  cases hm : monV ((s0, s1, ls, es), vs) with
  | false =>
    have hv : Hid (runF ((s0, s1, ls, es), vs) tr = (0, 0, 1)) := by show _ = _; unfold runF; rw [if_neg (by rw [hm]; decide)]
    rw [hm] at qa
    replace qa := hide qa
    clear hat hc4 t4W hm qb hT
    go_wp2_with fail
    refine qa.out.mono ?_
    rintro e w1 ⟨rfl, hb⟩
    replace hb := hide hb
    go_wp2_with fail
    go_ret3
    exact ⟨by rw [hv.out]; rfl, by first | exact hb0.out.trans (hb.out.mono hz') | (rw [hbm]; exact hb0.out.trans (hb.out.mono hz'))⟩
  | true =>
  have hst := lts_states (monV_lts hm)
  dsimp only at hst
  rw [hm] at qa
  replace qa := hide qa
  cases hvi : visB tr with
  | false =>
    have hv : Hid (runF ((s0, s1, ls, es), vs) tr = (0, 0, 2)) := by show _ = _; unfold runF; rw [if_pos hm, if_neg (by rw [hvi]; decide)]
    simp only [hvi] at qb
    replace qb := hide qb
    clear hat hc4 t4W hm hT
    go_wp2_with fail
    refine qa.out.mono ?_
    rintro e w1 ⟨rfl, hb⟩
    have qb1 := hide (qb.out _ hb)
    replace hb := hide hb
    go_wp2_with fail
    refine qb1.out.mono ?_
    rintro e w2 ⟨rfl, hb2⟩
    replace hb2 := hide hb2
    go_wp2_with fail
    go_ret3
    exact ⟨by rw [hv.out]; rfl, by first | exact hb0.out.trans ((hb.out.trans (hb2.out.mono hb.out.size)).mono hz') | (rw [hbm]; exact hb0.out.trans ((hb.out.trans (hb2.out.mono hb.out.size)).mono hz'))⟩
  | true =>
  have hval : Hid (runF ((s0, s1, ls, es), vs) tr = runG ((s0, s1, ls, es), vs) (tr.drop 0) s1 0) := by show _ = _; unfold runF; rw [if_pos hm, if_pos hvi]; rfl
  simp only [hvi] at qb
  replace qb := hide qb
  have hlen := monV_len hm
  have l4 := t4W.len
  dsimp only at hlen
  have hini0 := hst.2.1
  have hnl := hT.len
  have hini1 : s1 < s0 := by have := hst.2.2; omega
  go_wp2_with fail
  refine qa.out.mono ?_
  rintro e w1 ⟨rfl, hb⟩
  have qb1 := hide (qb.out _ hb)
  have d1 := (hb.cell (p := ⟨bm, 1, none⟩) hz).trans c1
  replace hb := hide hb
  go_wp2_with fail
  refine qb1.out.mono ?_
  rintro e w2 ⟨rfl, hb2⟩
  have f1 := (hb2.cell (p := ⟨bm, 1, none⟩) (Nat.lt_of_lt_of_le hz hb.out.size)).trans d1
  have hb3 := hb.out.trans (hb2.mono hb.out.size)
  clear hb2 hb qb1 qb qa c1 d1
  have hrel0 : Hid (runG ((s0, s1, ls, es), vs) (tr.drop 0) s1 0 = runF ((s0, s1, ls, es), vs) tr) := hval.out.symm
  replace hval := hide hval.out
  have hT' := hide hT
  have hat' := hide hat
  have t4' := hide t4W
  replace hm := hide hm
  replace l4 := hide l4
  replace hlen := hide hlen
  clear hT hat t4W hst hvi
  go_upto_region 7 with fail
  clear f1
  go_loopw [7, 8] (fun s i wr => ∃ (k : Nat) (x : Int), k ≤ n ∧ 0 ≤ x ∧ x < s0 ∧ s = .int .i64 x ∧ i = .int .i64 (k : Nat) ∧ Hid (runG ((s0, s1, ls, es), vs) (tr.drop k) x k = runF ((s0, s1, ls, es), vs) tr) ∧ Below W0.heap.size W0 wr) (fun _ i _ => n - (intOf i).toNat)
  case atStart => exact ⟨0, s1, Nat.zero_le _, hini0, hini1, rfl, rfl, hrel0, hb3⟩
  case round =>
    clear hrel0 hb3
    obtain ⟨k, x, hk, hx0, hx1, rfl, rfl, hg, hb⟩ := hrel
    have hc4' := (hb.cell (p := ⟨bm, 4, none⟩) hz).trans hc4
    have hsn : x.toNat < n4 := by have h1 := hlen.out; have h2 := l4.out; omega
    have hsI : x < (n4 : Int) := by omega
    obtain ⟨b, off, vv, rfl, -, -, g3, hx, p0, -⟩ := SlI.get t4'.out hsn
    have hver : verM ((s0, s1, ls, es), vs) x = vv := by unfold verM; rw [hx]; rfl
    replace p0 := (hb.cell (p := ⟨b, off + x.toNat, none⟩) g3).trans p0
    by_cases hlt : k < n
    · have hltI : (k : Int) < (n : Int) := by omega
      by_cases hv0 : vv = 0
      · subst hv0
        obtain ⟨b2, off2, lab, rfl, -, -, g32, hlab, q0, -⟩ := SlS.get hT'.out.sl hlt
        replace q0 := (hb.cell (p := ⟨b2, off2 + k, none⟩) g32).trans q0
        have qd := l30Next_calls bm (s0, s1, v2, v3) (some ⟨b, off, none⟩) n4 k4 (s0, s1, ls, es) vs x lab wr (hat'.out.below hb (Nat.le_refl _)) hc4' ((t4'.out.below hb (.inr (Nat.le_refl _))).more (Nat.le_refl _) hb.size) hm.out hx0 hx1
        have hr := nextM_range hm.out lab hx0 hx1
        have hs1 := @runG_step ((s0, s1, ls, es), vs) tr k lab x k hlab hver
        have hs2 := @runG_bad ((s0, s1, ls, es), vs) tr k lab x k hlab hver
        dsimp only at hr
        generalize nextM ((s0, s1, ls, es), vs) lab x = nx at *
        have hr2 := hr.2
        replace qd := hide qd
        clear hx hver hlab hr
        by_cases hnx : nx < 0
        · have hv := hide (hg.out.symm.trans (hs2 hnx))
          clear hs1 hs2 hg hr2
          go_wp2_with fail
          refine qd.out.mono ?_
          rintro e w4 ⟨rfl, hb4⟩
          have hbd := hide (hb.trans (hb4.mono hb.size))
          clear hb4 p0 q0 hc4'
          go_wp2_with fail
          go_ret3
          exact ⟨by rw [hv.out]; rfl, by first | exact hb0.out.trans (hbd.out.mono hz') | (rw [hbm]; exact hb0.out.trans (hbd.out.mono hz'))⟩
        · have hv := hide ((hs1 hnx).symm.trans hg.out)
          have hnx0 : 0 ≤ nx := by omega
          clear hs1 hs2 hg
          go_wp2_with fail
          refine qd.out.mono ?_
          rintro e w4 ⟨rfl, hb4⟩
          have hbd := hide (hb.trans (hb4.mono hb.size))
          clear hb4 p0 q0 hc4'
          go_wp2_with fail
          go_roundw
          case rel => exact ⟨k + 1, nx, by omega, hnx0, hr2, rfl, by go_num, by exact hv, hbd.out⟩
          case measure => simp [intOf]; omega
      · have hv := hide (hg.out.symm.trans (runG_stop (by rw [hver]; exact hv0)))
        rw [hver] at hv
        clear hx hver hg
        go_wp2_with fail
        go_ret3
        exact ⟨by rw [hv.out]; rfl, by first | exact hb0.out.trans (hb.mono hz') | (rw [hbm]; exact hb0.out.trans (hb.mono hz'))⟩
    · have hltI : ¬ (k : Int) < (n : Int) := by omega
      have hv := hide (hg.out.symm.trans (runG_end (by rw [hT'.out.sl.len]; omega)))
      rw [hver] at hv
      have hkn : k = n := by omega
      subst hkn
      clear hx hver hg
      go_wp2_with fail
      go_ret3
      exact ⟨by rw [hv.out]; rfl, by first | exact hb0.out.trans (hb.mono hz') | (rw [hbm]; exact hb0.out.trans (hb.mono hz'))⟩

set_option maxRecDepth 100000 in
set_option maxHeartbeats 1600000 in
theorem implRunMonitor_u {v u : Value} {d : DM} {tr : List ByteArray} {w : World} {lo hi lo' hi' : Nat} (he : Env w) (h : FreshM w lo hi v d) (hh : hi ≤ w.heap.size) (g : FreshSS w lo' hi' u tr) (gh : hi' ≤ w.heap.size) :
    Calls Tryz.prog 37 #[v, u] w fun e w' => e = .returned (.tuple #[.int .i64 (runF d tr).1, .int .i64 (runF d tr).2.1, .int .i64 (runF d tr).2.2]) ∧ Below w.heap.size w w' := by
  obtain ⟨⟨s0, s1, v2, v3⟩, A4, n4, k4, rfl, hL, t4, hn4, htot⟩ := h.open_
  obtain ⟨A, n, c, rfl, hT⟩ := FreshS.open_ g.1 g.2
  obtain ⟨⟨st, ini, ls, es⟩, vs⟩ := d
  have hb0 : Below w.heap.size w (w.alloc (.cells #[.int .i64 s0, .int .i64 s1, v2, v3, .slice A4 n4 k4] 35)) := (Below.refl _ _).alloc (Nat.le_refl _) _
  have qa := monitorCode_calls s0 s1 v2 v3 A4 n4 k4 (st, ini, ls, es) vs A n c tr _ lo hi lo' hi' (hL.below hb0 (.inr (Nat.le_refl _))) (t4.below hb0 (.inr (Nat.le_refl _))) hn4 htot (hT.below hb0 (.inr (Nat.le_refl _))) (he.below hb0 (Nat.le_refl _))
  obtain ⟨e0, e1, ⟨A2, n2, k2, e2, hn2, hs2, t2⟩, ⟨A3, n3, k3, e3, hn3, t3⟩⟩ := hL
  dsimp only at *
  subst e0 e1 e2 e3
  have hes : n3 ≤ 1048576 := by rw [← t3.len]; exact Nat.le_trans (totL_edg (s0, s1, ls, es)) htot
  have kE := heap_alloc_new w (.cells #[.int .i64 s0, .int .i64 s1, .slice A2 n2 k2, .slice A3 n3 k3, .slice A4 n4 k4] 35)
  have hz : w.heap.size < (w.alloc (.cells #[.int .i64 s0, .int .i64 s1, .slice A2 n2 k2, .slice A3 n3 k3, .slice A4 n4 k4] 35)).heap.size := by rw [World.size_alloc]; omega
  replace t2 := hide (t2.below hb0 (.inr (Nat.le_refl _)))
  replace t3 := hide (t3.below hb0 (.inr (Nat.le_refl _)))
  replace t4 := hide (t4.below hb0 (.inr (Nat.le_refl _)))
  have hnl := hT.len
  replace hT := hide (hT.below hb0 (.inr (Nat.le_refl _)))
  have hz' := Nat.le_of_lt hz
  replace hb0 := hide hb0
  clear hn2 hn3 hs2 htot h g he
  go_enter Tryz.func37, Tryz.ntmps37
  go_upto_region 1 with fail
  generalize (w.alloc (.cells #[.int .i64 s0, .int .i64 s1, .slice A2 n2 k2, .slice A3 n3 k3, .slice A4 n4 k4] 35)) = W0 at *
  generalize hbm : w.heap.size = bm at *
  have c0 : W0.cell? ⟨bm, 0, none⟩ = some (.int .i64 s0) := (cell_of_row _ _ 0 _ _ (0, 0) kE).trans rfl
  have c1 : W0.cell? ⟨bm, 1, none⟩ = some (.int .i64 s1) := (cell_of_row _ _ 1 _ _ (0, 0) kE).trans rfl
  have c2 : W0.cell? ⟨bm, 2, none⟩ = some (.slice A2 n2 k2) := (cell_of_row _ _ 2 _ _ (0, 0) kE).trans rfl
  have c3 : W0.cell? ⟨bm, 3, none⟩ = some (.slice A3 n3 k3) := (cell_of_row _ _ 3 _ _ (0, 0) kE).trans rfl
  have c4 : W0.cell? ⟨bm, 4, none⟩ = some (.slice A4 n4 k4) := (cell_of_row _ _ 4 _ _ (0, 0) kE).trans rfl
  cases hm : monV ((s0, s1, ls, es), vs) with
  | false =>
    have hv : Hid (runF ((s0, s1, ls, es), vs) tr = (0, 0, 1)) := by show _ = _; unfold runF; rw [if_neg (by rw [hm]; decide)]
    rw [hm] at qa
    replace qa := hide qa
    clear hm kE
    go_wp2_with fail
    refine qa.out.mono ?_
    rintro e w1 ⟨rfl, hb⟩
    replace hb := hide hb
    go_wp2_with fail
    go_ret3
    exact ⟨by rw [hv.out]; rfl, by first | exact hb0.out.trans (hb.out.mono hz') | (rw [hbm]; exact hb0.out.trans (hb.out.mono hz'))⟩
  | true =>
  rw [hm] at qa
  cases hvi : visB tr with
  | false =>
    have hv : Hid (runF ((s0, s1, ls, es), vs) tr = (0, 0, 2)) := by show _ = _; unfold runF; rw [if_pos hm, if_neg (by rw [hvi]; decide)]
    rw [hvi] at qa
    replace qa := hide qa
    clear hm kE hvi
    go_wp2_with fail
    refine qa.out.mono ?_
    rintro e w1 ⟨rfl, hb⟩
    replace hb := hide hb
    go_wp2_with fail
    go_ret3
    exact ⟨by rw [hv.out]; rfl, by first | exact hb0.out.trans (hb.out.mono hz') | (rw [hbm]; exact hb0.out.trans (hb.out.mono hz'))⟩
  | true =>
  rw [hvi] at qa
  replace qa := hide qa
  have hst := lts_states (monV_lts hm)
  dsimp only at hst
  have hval : Hid (runG ((s0, s1, ls, es), vs) (tr.drop 0) s1 0 = runF ((s0, s1, ls, es), vs) tr) := by show _ = _; unfold runF; rw [if_pos hm, if_pos hvi]; rfl
  have hlen := monV_len hm
  have l4 := t4.out.len
  dsimp only at hlen
  have hini0 := hst.2.1
  have hini1 : s1 < s0 := by have := hst.2.2; omega
  replace hm := hide hm
  replace l4 := hide l4
  replace hlen := hide hlen
  clear hst hvi
  go_wp2_with fail
  refine qa.out.mono ?_
  rintro e w1 ⟨rfl, hb⟩
  have d1 := (hb.cell (p := ⟨bm, 1, none⟩) hz).trans c1
  clear c0 c1 c2 c3 c4 qa
  go_upto_region 6 with fail
  clear d1
  go_loopw [8, 9] (fun s i wr => ∃ (k : Nat) (x : Int), k ≤ n ∧ 0 ≤ x ∧ x < s0 ∧ s = .int .i64 x ∧ i = .int .i64 (k : Nat) ∧ Hid (runG ((s0, s1, ls, es), vs) (tr.drop k) x k = runF ((s0, s1, ls, es), vs) tr) ∧ Below W0.heap.size W0 wr) (fun _ i _ => n - (intOf i).toNat)
  case atStart => exact ⟨0, s1, Nat.zero_le _, hini0, hini1, rfl, rfl, hval, hb⟩
  case round =>
    clear hval hb
    obtain ⟨k, x, hk, hx0, hx1, rfl, rfl, hg, hb⟩ := hrel
    have k1 := (hb.block _ hz).trans kE
    have hc4' : wr.cell? ⟨bm, 4, none⟩ = some (.slice A4 n4 k4) := (cell_of_row _ _ 4 _ _ (0, 0) k1).trans rfl
    have hsn : x.toNat < n4 := by have h1 := hlen.out; have h2 := l4.out; omega
    have hsI : x < (n4 : Int) := by omega
    have hver0 : verM ((s0, s1, ls, es), vs) x = (vs[x.toNat]?).getD 0 := rfl
    obtain ⟨b, off, vv, rfl, -, -, g3, hx, p0, -⟩ := SlI.get t4.out hsn
    have hver : verM ((s0, s1, ls, es), vs) x = vv := by rw [hver0, hx]; rfl
    replace p0 := (hb.cell (p := ⟨b, off + x.toNat, none⟩) g3).trans p0
    by_cases hlt : k < n
    · have hltI : (k : Int) < (n : Int) := by omega
      by_cases hv0 : vv = 0
      · subst hv0
        obtain ⟨b2, off2, lab, rfl, -, -, g32, hlab, q0, -⟩ := SlS.get hT.out.sl hlt
        replace q0 := (hb.cell (p := ⟨b2, off2 + k, none⟩) g32).trans q0
        have d0 : wr.cell? ⟨bm, 0, none⟩ = some (.int .i64 s0) := (cell_of_row _ _ 0 _ _ (0, 0) k1).trans rfl
        have d1 : wr.cell? ⟨bm, 1, none⟩ = some (.int .i64 s1) := (cell_of_row _ _ 1 _ _ (0, 0) k1).trans rfl
        have d2 : wr.cell? ⟨bm, 2, none⟩ = some (.slice A2 n2 k2) := (cell_of_row _ _ 2 _ _ (0, 0) k1).trans rfl
        have d3 : wr.cell? ⟨bm, 3, none⟩ = some (.slice A3 n3 k3) := (cell_of_row _ _ 3 _ _ (0, 0) k1).trans rfl
        have hbD := hb.drew
        have qd := observe_calls s0 s1 A2 n2 k2 A3 n3 k3 (some ⟨b, off, none⟩) n4 k4 vs x lab ls es wr.drew lo hi (t2.out.below hbD (.inr (Nat.le_refl _))) (t3.out.below hbD (.inr (Nat.le_refl _))) (t4.out.below hbD (.inr (Nat.le_refl _))) hes hm.out hx0 hx1
        have hr := nextM_range hm.out lab hx0 hx1
        have hs1 := @runG_step ((s0, s1, ls, es), vs) tr k lab x k hlab hver
        have hs2 := @runG_bad ((s0, s1, ls, es), vs) tr k lab x k hlab hver
        dsimp only at hr
        generalize nextM ((s0, s1, ls, es), vs) lab x = nx at *
        have hr2 := hr.2
        have hI0 : (0 : Int) ≤ (k : Int) := by omega
        replace qd := hide qd
        clear hx hver hlab hr hver0 k1
        by_cases hnx : nx < 0
        · have hv := hide (hg.out.symm.trans (hs2 hnx))
          clear hs1 hs2 hg hr2
          go_wp2
          go_still_tail 6, (by kernel_rfl)
          change wpList _ _ _ _ _ wr.drew
          clear p0 q0 hc4' d0 d1 d2 d3
          generalize wr.drew = wd at *
          go_wp2_with fail
          refine qd.out.mono ?_
          rintro e w4 ⟨rfl, hb4⟩
          have hbd := hide (hbD.trans (hb4.mono hbD.size))
          clear hb4
          go_wp2_with fail
          go_ret3
          exact ⟨by rw [hv.out]; rfl, by first | exact hb0.out.trans (hbd.out.mono hz') | (rw [hbm]; exact hb0.out.trans (hbd.out.mono hz'))⟩
        · have hv := hide ((hs1 hnx).symm.trans hg.out)
          have hnx0 : 0 ≤ nx := by omega
          clear hs1 hs2 hg
          go_wp2
          go_still_tail 6, (by kernel_rfl)
          change wpList _ _ _ _ _ wr.drew
          clear p0 q0 hc4' d0 d1 d2 d3
          generalize wr.drew = wd at *
          go_wp2_with fail
          refine qd.out.mono ?_
          rintro e w4 ⟨rfl, hb4⟩
          have hbd := hide (hbD.trans (hb4.mono hbD.size))
          clear hb4
          go_wp2_with fail
          go_roundw
          case rel => exact ⟨k + 1, nx, by omega, hnx0, hr2, rfl, by go_num, by exact hv, hbd.out⟩
          case measure => simp [intOf]; omega
      · have hv := hide (hg.out.symm.trans (runG_stop (by rw [hver]; exact hv0)))
        rw [hver] at hv
        clear hx hver hg hver0 k1
        go_wp2_with fail
        go_ret3
        exact ⟨by rw [hv.out]; rfl, by first | exact hb0.out.trans (hb.mono hz') | (rw [hbm]; exact hb0.out.trans (hb.mono hz'))⟩
    · have hltI : ¬ (k : Int) < (n : Int) := by omega
      have hv := hide (hg.out.symm.trans (runG_end (by rw [hT.out.sl.len]; omega)))
      rw [hver] at hv
      have hkn : k = n := by omega
      subst hkn
      clear hx hver hg hver0 k1
      go_wp2_with fail
      go_ret3
      exact ⟨by rw [hv.out]; rfl, by first | exact hb0.out.trans (hb.mono hz') | (rw [hbm]; exact hb0.out.trans (hb.mono hz'))⟩

end Go.Proofs.YtiaclddgllkgpaaGreatDoor
