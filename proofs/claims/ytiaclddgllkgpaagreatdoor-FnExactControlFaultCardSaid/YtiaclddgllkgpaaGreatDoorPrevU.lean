/-
  PreventedAfter, by the program. Conditions: sizes.
-/
import Derived.Test.YtiaclddgllkgpaaGreatDoorPrevS
import Derived.Test.YtiaclddgllkgpaaGreatDoorPrevI
namespace Go.Proofs.YtiaclddgllkgpaaGreatDoor
open Go.ChangeShapes Go.WideShapes Go.ChangeAt Go.RowKit Go.Sort
set_option linter.unusedVariables false
set_option linter.unusedSimpArgs false

theorem Sl.two (w : World) (t : TypeId) (x y : Int) (B : Nat) (hB : B ≤ w.heap.size) : SlI (w.alloc (.cells #[.int .i64 x, .int .i64 y] t)) B (w.heap.size + 1) (some ⟨w.heap.size, 0, none⟩) 2 [x, y] := by
  refine ⟨rfl, fun _ => ⟨w.heap.size, 0, rfl, hB, by omega, by simp, fun k z hz j u hu => ?_⟩⟩
  have hg := heap_alloc_new w (.cells #[.int .i64 x, .int .i64 y] t)
  match k, j, hz, hu with
  | 0, 0, hz, hu =>
    simp at hz
    subst hz
    exact ⟨(cell_of_row _ _ _ _ t (0, 0) hg).trans (by simpa [iv] using hu), frozen_of_row _ _ _ _ t hg⟩
  | 1, 0, hz, hu =>
    simp at hz
    subst hz
    exact ⟨(cell_of_row _ _ _ _ t (0, 0) hg).trans (by simpa [iv] using hu), frozen_of_row _ _ _ _ t hg⟩
  | k + 2, _, hz, _ => simp at hz
  | 0, j + 1, _, hu => simp [iv] at hu
  | 1, j + 1, _, hu => simp [iv] at hu

set_option maxRecDepth 100000 in
set_option maxHeartbeats 3200000 in
theorem implPreventedAfter_u {v u t : Value} {d : DP} {s : DL} {tr : List ByteArray} {w : World} {lo hi lo' hi' lo2 hi2 : Nat} (he : Env w) (h : FreshP w lo hi v d) (hh : hi ≤ w.heap.size) (g : FreshL w lo' hi' u s) (gh : hi' ≤ w.heap.size) (r : FreshSS w lo2 hi2 t tr) (rh : hi2 ≤ w.heap.size) :
    Calls Tryz.prog 47 #[v, u, t] w fun e w' => ∃ u0, e = .returned (.tuple #[u0, .int .i64 (prvF d s tr).2]) ∧ ResS w' w.heap.size w'.heap.size u0 (prvF d s tr).1 ∧ Below w.heap.size w w' := by
  obtain ⟨⟨p0, p1, v2, v3⟩, A4, n4, k4, A5, n5, k5, rfl, hp⟩ := h.open_
  obtain ⟨⟨⟨r0, r1, u2, u3⟩, rfl, gL⟩, gt⟩ := g
  obtain ⟨A, n, c, rfl, hT⟩ := FreshS.open_ r.1 r.2
  obtain ⟨⟨st, ini, ls, es⟩, vs, ns⟩ := d
  obtain ⟨st', ini', ms, fs⟩ := s
  have hp' := hp
  obtain ⟨hL, t4, t5, h4, h5, hs, ht⟩ := hp
  have e0 := hL.1
  have e1 := hL.2.1
  have f0 := gL.1
  have f1 := gL.2.1
  dsimp only at *
  subst e0 e1 f0 f1
  obtain ⟨A2, n2, k2, rfl, hn2, hs2, t2⟩ := hL.2.2.1
  obtain ⟨A3, n3, k3, rfl, hn3, t3⟩ := hL.2.2.2
  obtain ⟨B2, m2, j2, rfl, hm2, hs3, u2⟩ := gL.2.2.1
  obtain ⟨B3, m3, j3, rfl, hm3, u3⟩ := gL.2.2.2
  have hb0 : Below w.heap.size w ((w.alloc (.cells #[.int .i64 p0, .int .i64 p1, .slice A2 n2 k2, .slice A3 n3 k3, .slice A4 n4 k4, .slice A5 n5 k5] 44)).alloc (.cells #[.int .i64 r0, .int .i64 r1, .slice B2 m2 j2, .slice B3 m3 j3] 33)) := ((Below.refl _ _).alloc (Nat.le_refl _) _).alloc (by rw [World.size_alloc]; omega) _
  have k0 : ((w.alloc (.cells #[.int .i64 p0, .int .i64 p1, .slice A2 n2 k2, .slice A3 n3 k3, .slice A4 n4 k4, .slice A5 n5 k5] 44)).alloc (.cells #[.int .i64 r0, .int .i64 r1, .slice B2 m2 j2, .slice B3 m3 j3] 33)).heap[w.heap.size]? = some (.cells #[.int .i64 p0, .int .i64 p1, .slice A2 n2 k2, .slice A3 n3 k3, .slice A4 n4 k4, .slice A5 n5 k5] 44 (0, 0)) := (Below.heap_alloc _ _ _ (by rw [World.size_alloc]; omega)).trans (heap_alloc_new w _)
  have k1 : ((w.alloc (.cells #[.int .i64 p0, .int .i64 p1, .slice A2 n2 k2, .slice A3 n3 k3, .slice A4 n4 k4, .slice A5 n5 k5] 44)).alloc (.cells #[.int .i64 r0, .int .i64 r1, .slice B2 m2 j2, .slice B3 m3 j3] 33)).heap[w.heap.size + 1]? = some (.cells #[.int .i64 r0, .int .i64 r1, .slice B2 m2 j2, .slice B3 m3 j3] 33 (0, 0)) := by have h := heap_alloc_new (w.alloc (.cells #[.int .i64 p0, .int .i64 p1, .slice A2 n2 k2, .slice A3 n3 k3, .slice A4 n4 k4, .slice A5 n5 k5] 44)) (.cells #[.int .i64 r0, .int .i64 r1, .slice B2 m2 j2, .slice B3 m3 j3] 33); rw [World.size_alloc] at h; exact h
  have hz : w.heap.size + 1 < ((w.alloc (.cells #[.int .i64 p0, .int .i64 p1, .slice A2 n2 k2, .slice A3 n3 k3, .slice A4 n4 k4, .slice A5 n5 k5] 44)).alloc (.cells #[.int .i64 r0, .int .i64 r1, .slice B2 m2 j2, .slice B3 m3 j3] 33)).heap.size := by rw [World.size_alloc, World.size_alloc]; omega
  have hLW := hL.below hb0 (.inr (Nat.le_refl _))
  have gLW := gL.below hb0 (.inr (Nat.le_refl _))
  have t4W := t4.below hb0 (.inr (Nat.le_refl _))
  have t5W := t5.below hb0 (.inr (Nat.le_refl _))
  have t2W := hide (t2.below hb0 (.inr (Nat.le_refl _)))
  have t3W := hide (t3.below hb0 (.inr (Nat.le_refl _)))
  have u2W := hide (u2.below hb0 (.inr (Nat.le_refl _)))
  have u3W := hide (u3.below hb0 (.inr (Nat.le_refl _)))
  have heW := he.below hb0 (Nat.le_refl _)
  replace hT := hide (hT.below hb0 (.inr (Nat.le_refl _)))
  have hz' := hb0.size
  have hes : n3 ≤ 1048576 := by rw [← t3.len]; exact Nat.le_trans (totL_edg (p0, p1, ls, es)) ht
  have hfs : m3 ≤ 1048576 := by rw [← u3.len]; exact Nat.le_trans (totL_edg (r0, r1, ms, fs)) gt
  have hms : m2 ≤ 1048576 := by rw [← u2.len]; exact Nat.le_trans (totL_lab (r0, r1, ms, fs)) gt
  replace hs2 := hide hs2
  replace hb0 := hide hb0
  clear hL gL t4 t5 h r hp' he t2 t3 u2 u3 hn2 hn3 hm2 hm3 hs3
  go_enter Tryz.func47, Tryz.ntmps47
  go_upto_region 1 with fail
  generalize ((w.alloc (.cells #[.int .i64 p0, .int .i64 p1, .slice A2 n2 k2, .slice A3 n3 k3, .slice A4 n4 k4, .slice A5 n5 k5] 44)).alloc (.cells #[.int .i64 r0, .int .i64 r1, .slice B2 m2 j2, .slice B3 m3 j3] 33)) = W0 at *
  generalize hbm : w.heap.size = bm at *
  have hbmz : bm < W0.heap.size := by omega
  have c0 : W0.cell? ⟨bm, 0, none⟩ = some (.int .i64 p0) := (cell_of_row _ _ 0 _ _ (0, 0) k0).trans rfl
  have c1 : W0.cell? ⟨bm, 1, none⟩ = some (.int .i64 p1) := (cell_of_row _ _ 1 _ _ (0, 0) k0).trans rfl
  have c2 : W0.cell? ⟨bm, 2, none⟩ = some (.slice A2 n2 k2) := (cell_of_row _ _ 2 _ _ (0, 0) k0).trans rfl
  have c3 : W0.cell? ⟨bm, 3, none⟩ = some (.slice A3 n3 k3) := (cell_of_row _ _ 3 _ _ (0, 0) k0).trans rfl
  have c4 : W0.cell? ⟨bm, 4, none⟩ = some (.slice A4 n4 k4) := (cell_of_row _ _ 4 _ _ (0, 0) k0).trans rfl
  have c5 : W0.cell? ⟨bm, 5, none⟩ = some (.slice A5 n5 k5) := (cell_of_row _ _ 5 _ _ (0, 0) k0).trans rfl
  have d0 : W0.cell? ⟨bm + 1, 0, none⟩ = some (.int .i64 r0) := (cell_of_row _ _ 0 _ _ (0, 0) k1).trans rfl
  have d1 : W0.cell? ⟨bm + 1, 1, none⟩ = some (.int .i64 r1) := (cell_of_row _ _ 1 _ _ (0, 0) k1).trans rfl
  have d2 : W0.cell? ⟨bm + 1, 2, none⟩ = some (.slice B2 m2 j2) := (cell_of_row _ _ 2 _ _ (0, 0) k1).trans rfl
  have d3 : W0.cell? ⟨bm + 1, 3, none⟩ = some (.slice B3 m3 j3) := (cell_of_row _ _ 3 _ _ (0, 0) k1).trans rfl
  have hbA : Below W0.heap.size W0 (W0.alloc (.cells #[.int .i64 r0, .int .i64 r1, .slice B2 m2 j2, .slice B3 m3 j3] 33)) := (Below.refl _ _).alloc (Nat.le_refl _) _
  have kA := heap_alloc_new W0 (.cells #[.int .i64 r0, .int .i64 r1, .slice B2 m2 j2, .slice B3 m3 j3] 33)
  have hpA : PlantAt (W0.alloc (.cells #[.int .i64 r0, .int .i64 r1, .slice B2 m2 j2, .slice B3 m3 j3] 33)) lo hi (p0, p1, .slice A2 n2 k2, .slice A3 n3 k3) A4 n4 k4 A5 n5 k5 ((p0, p1, ls, es), vs, ns) :=
    ⟨hLW.below hbA (.inr (Nat.le_refl _)), t4W.below hbA (.inr (Nat.le_refl _)), t5W.below hbA (.inr (Nat.le_refl _)), h4, h5, hs, ht⟩
  have qa := plantCode_calls (p0, p1, .slice A2 n2 k2, .slice A3 n3 k3) A4 n4 k4 A5 n5 k5 ((p0, p1, ls, es), vs, ns) (r0, r1, .slice B2 m2 j2, .slice B3 m3 j3) (r0, r1, ms, fs) W0.heap.size 1 _ lo hi lo' hi' hpA kA (gLW.below hbA (.inr (Nat.le_refl _))) gt (heW.below hbA (Nat.le_refl _))
  replace hbA := hide hbA
  clear kA hpA hLW gLW t4W t5W heW k0 k1 h4 h5 hs
  cases hv12 : (plantV ((p0, p1, ls, es), vs, ns) && detV (r0, r1, ms, fs)) with
  | false =>
    have hval : Hid (prvF ((p0, p1, ls, es), vs, ns) (r0, r1, ms, fs) tr = ([], 1)) := by show _ = _; unfold prvF; rw [if_neg (by rw [hv12]; decide)]
    rw [hv12, if_neg (by decide)] at qa
    replace qa := hide qa
    clear t2W t3W u2W u3W hT hv12
    go_wp2_with fail
    refine qa.out.mono ?_
    rintro e w1 ⟨rfl, hb⟩
    have hbw := hide (hbA.out.trans (hb.mono hbA.out.size))
    clear hb
    go_wp2_with fail
    go_ret2
    exact ⟨_, by rw [hval.out]; rfl, by rw [hval.out]; exact resS_nil' _ _ _, by first | exact hb0.out.trans (hbw.out.mono hz') | (rw [hbm]; exact hb0.out.trans (hbw.out.mono hz'))⟩
  | true =>
  have hval : prvF ((p0, p1, ls, es), vs, ns) (r0, r1, ms, fs) tr = (match prvG (p0, p1, ls, es) (r0, r1, ms, fs) (tr.drop 0) p1 r1 with | some (x, y) => (prvL (p0, p1, ls, es) (r0, r1, ms, fs) x y, 0) | none => ([], 3)) := by
    unfold prvF
    rw [if_pos hv12]
    rfl
  rw [hv12, if_pos rfl] at qa
  rw [Bool.and_eq_true] at hv12
  have hdp : detV (p0, p1, ls, es) = true := by
    have h1 := hv12.1
    unfold plantV at h1
    rw [Bool.and_eq_true] at h1
    exact h1.1
  have hlp := det_ltsA hdp
  have hls := det_ltsA hv12.2
  have hds := hide hv12.2
  have hbp := lts_boundsA hlp
  have hbs := lts_boundsA hls
  have hx0 := hbp.2.1
  have hx1 : p1 < p0 := by omega
  have hy0 := hbs.2.1
  have hy1 : r1 < r0 := by omega
  have hnl := hT.out.len
  have hdp' := hide hdp
  replace qa := hide qa
  replace hval := hide hval
  clear hv12 hlp hls hdp hbp hbs
  go_wp2_with fail
  refine qa.out.mono ?_
  rintro e w1 ⟨rfl, hb⟩
  have hbw := hbA.out.trans (hb.mono hbA.out.size)
  have a0 := (hbw.cell (p := ⟨bm, 0, none⟩) hbmz).trans c0
  have a1 := (hbw.cell (p := ⟨bm, 1, none⟩) hbmz).trans c1
  have a2 := (hbw.cell (p := ⟨bm, 2, none⟩) hbmz).trans c2
  have a3 := (hbw.cell (p := ⟨bm, 3, none⟩) hbmz).trans c3
  have a4 := (hbw.cell (p := ⟨bm, 4, none⟩) hbmz).trans c4
  have a5 := (hbw.cell (p := ⟨bm, 5, none⟩) hbmz).trans c5
  have b0 := (hbw.cell (p := ⟨bm + 1, 0, none⟩) hz).trans d0
  have b1 := (hbw.cell (p := ⟨bm + 1, 1, none⟩) hz).trans d1
  have b2 := (hbw.cell (p := ⟨bm + 1, 2, none⟩) hz).trans d2
  have b3 := (hbw.cell (p := ⟨bm + 1, 3, none⟩) hz).trans d3
  replace hbw := hide hbw
  clear hb qa hbA
  go_upto_region 5 with fail
  have hbT : Below W0.heap.size W0 (w1.alloc (.cells #[.int .i64 p0, .int .i64 p1, .slice A2 n2 k2, .slice A3 n3 k3, .slice A4 n4 k4, .slice A5 n5 k5, .int .i64 r0, .int .i64 r1, .slice B2 m2 j2, .slice B3 m3 j3, .slice none 0 0, .map none, .slice none 0 0] 117)) := hbw.out.alloc hbw.out.size _
  have kT := heap_alloc_new w1 (.cells #[.int .i64 p0, .int .i64 p1, .slice A2 n2 k2, .slice A3 n3 k3, .slice A4 n4 k4, .slice A5 n5 k5, .int .i64 r0, .int .i64 r1, .slice B2 m2 j2, .slice B3 m3 j3, .slice none 0 0, .map none, .slice none 0 0] 117)
  have hTg : Hid (TogAt (w1.alloc (.cells #[.int .i64 p0, .int .i64 p1, .slice A2 n2 k2, .slice A3 n3 k3, .slice A4 n4 k4, .slice A5 n5 k5, .int .i64 r0, .int .i64 r1, .slice B2 m2 j2, .slice B3 m3 j3, .slice none 0 0, .map none, .slice none 0 0] 117)) w1.heap.size p0 p1 A2 n2 k2 A3 n3 k3 r0 r1 B2 m2 j2 B3 m3 j3) :=
    ⟨by rw [World.size_alloc]; omega, (cell_of_row _ _ 0 _ _ (0, 0) kT).trans rfl, (cell_of_row _ _ 1 _ _ (0, 0) kT).trans rfl, (cell_of_row _ _ 2 _ _ (0, 0) kT).trans rfl, (cell_of_row _ _ 3 _ _ (0, 0) kT).trans rfl,
     (cell_of_row _ _ 6 _ _ (0, 0) kT).trans rfl, (cell_of_row _ _ 7 _ _ (0, 0) kT).trans rfl, (cell_of_row _ _ 8 _ _ (0, 0) kT).trans rfl, (cell_of_row _ _ 9 _ _ (0, 0) kT).trans rfl⟩
  have hbtz : w1.heap.size < (w1.alloc (.cells #[.int .i64 p0, .int .i64 p1, .slice A2 n2 k2, .slice A3 n3 k3, .slice A4 n4 k4, .slice A5 n5 k5, .int .i64 r0, .int .i64 r1, .slice B2 m2 j2, .slice B3 m3 j3, .slice none 0 0, .map none, .slice none 0 0] 117)).heap.size := by rw [World.size_alloc]; omega
  replace a1 := (hbT.cell (p := ⟨bm, 1, none⟩) hbmz).trans c1
  replace b1 := (hbT.cell (p := ⟨bm + 1, 1, none⟩) hz).trans d1
  have hTs := hbT.size
  replace hbT := hide hbT
  have c0' := hide c0
  have c1' := hide c1
  have c2' := hide c2
  have c3' := hide c3
  have d0' := hide d0
  have d1' := hide d1
  have d2' := hide d2
  have d3' := hide d3
  have qs := fun (lab : ByteArray) (x : Int) W (hW : Below W0.heap.size W0 W) => step_calls p0 p1 A2 n2 k2 A3 n3 k3 x lab ls es W lo hi (t2W.out.below hW (.inr (Nat.le_refl _))) (t3W.out.below hW (.inr (Nat.le_refl _))) hes hdp'.out
  have qa := fun (lab : ByteArray) (y : Int) W (hW : Below W0.heap.size W0 W) => along_calls r0 r1 B2 m2 j2 B3 m3 j3 y lab ms fs W lo' hi' (u2W.out.below hW (.inr (Nat.le_refl _))) (u3W.out.below hW (.inr (Nat.le_refl _))) hfs hms hds.out
  replace qs := hide qs
  replace qa := hide qa
  clear kT a0 a2 a3 a4 a5 b0 b2 b3 c0 c1 c2 c3 c4 c5 d0 d1 d2 d3
  generalize (w1.alloc (.cells #[.int .i64 p0, .int .i64 p1, .slice A2 n2 k2, .slice A3 n3 k3, .slice A4 n4 k4, .slice A5 n5 k5, .int .i64 r0, .int .i64 r1, .slice B2 m2 j2, .slice B3 m3 j3, .slice none 0 0, .map none, .slice none 0 0] 117)) = W2 at *
  generalize hbt : w1.heap.size = bt at *
  have hst := Sl.two W2 2 p1 r1 W2.heap.size (Nat.le_refl _)
  have hstB : Below W2.heap.size W2 (W2.alloc (.cells #[.int .i64 p1, .int .i64 r1] 2)) := (Below.refl _ _).alloc (Nat.le_refl _) _
  replace hst := hide (hst.more (Nat.le_refl _) (show _ ≤ (W2.alloc (.cells #[.int .i64 p1, .int .i64 r1] 2)).heap.size by rw [World.size_alloc]; exact Nat.le_refl _))
  replace hstB := hide hstB
  go_upto_region 7 with fail
  clear a1 b1
  go_loopg [10, 36] n (fun G s i wr => ∃ (k : Nat) (x y : Int) (Ap : Option Addr) (cp : Nat), k ≤ n ∧ s = .slice Ap 2 cp ∧ i = .int .i64 (k : Nat) ∧ Hid (SlI wr W2.heap.size wr.heap.size Ap 2 [x, y]) ∧ Hid (prvG (p0, p1, ls, es) (r0, r1, ms, fs) (tr.drop k) x y = prvG (p0, p1, ls, es) (r0, r1, ms, fs) (tr.drop 0) p1 r1) ∧ Below W2.heap.size W2 wr ∧ Hid (n - k ≤ G))
  case atStart => exact ⟨0, p1, r1, _, _, Nat.zero_le _, rfl, rfl, hst, rfl, hstB.out, by show _ ≤ _; omega⟩
  case round =>
    clear hst hstB
    obtain ⟨k, x, y, Ap, cp, hk, rfl, rfl, hp, hg, hb, hG⟩ := hrel
    have hbX := hbT.out.trans (hb.mono hTs)
    by_cases hlt : k < n
    · obtain ⟨G2, rfl⟩ : ∃ G2, gk = G2 + 1 := ⟨gk - 1, by have := hG.out; omega⟩
      have hG2 : Hid (n - (k + 1) ≤ G2) := by have := hG.out; show _ ≤ _; omega
      obtain ⟨bl, ol, lab, rfl, -, -, gl, hlab, q0, -⟩ := SlS.get hT.out.sl hlt
      replace q0 := (hbX.cell (p := ⟨bl, ol + k, none⟩) gl).trans q0
      have hI0 : (0 : Int) ≤ (k : Int) := by omega
      have hI1 : (k : Int) < (n : Int) := by omega
      obtain ⟨bp, op, vx, eA, -, -, hpb, hx, px, -⟩ := SlI.get hp.out (show 0 < 2 by omega)
      obtain ⟨bp2, op2, vy, eB, -, -, -, hy, py, -⟩ := SlI.get hp.out (show 1 < 2 by omega)
      rw [eA] at eB
      obtain ⟨rfl, rfl⟩ : bp = bp2 ∧ op = op2 := by injection eB with e; injection e with e1 e2; exact ⟨e1, e2⟩
      subst eA
      simp at hx hy
      subst hx hy
      simp only [Nat.add_zero] at px
      have hst := @prvG_step (p0, p1, ls, es) (r0, r1, ms, fs) tr k lab x y hlab
      have hbad := @prvG_bad (p0, p1, ls, es) (r0, r1, ms, fs) tr k lab x y hlab
      dsimp only at hst hbad
      replace hst := hide hst
      replace hbad := hide hbad
      have x0 := (hbX.cell (p := ⟨bm, 0, none⟩) hbmz).trans c0'.out
      have x1 := (hbX.cell (p := ⟨bm, 1, none⟩) hbmz).trans c1'.out
      have x2 := (hbX.cell (p := ⟨bm, 2, none⟩) hbmz).trans c2'.out
      have x3 := (hbX.cell (p := ⟨bm, 3, none⟩) hbmz).trans c3'.out
      have z0 := (hbX.cell (p := ⟨bm + 1, 0, none⟩) hz).trans d0'.out
      have z1 := (hbX.cell (p := ⟨bm + 1, 1, none⟩) hz).trans d1'.out
      have z2 := (hbX.cell (p := ⟨bm + 1, 2, none⟩) hz).trans d2'.out
      have z3 := (hbX.cell (p := ⟨bm + 1, 3, none⟩) hz).trans d3'.out
      clear hlab
      go_upto_region 9 with fail
      have qd := hide (qs.out lab x _ hbX.drew)
      have hbXs := hbX.size
      replace hbX := hide hbX
      go_cut [13] (fun a wx => a = .int .i64 (goE es ls lab x) ∧ Below wr.heap.size wr wx)
      case first =>
        go_region_law (first | (go_simp; go_at_call 90; (with_reducible refine qd.out.mono ?_); rintro e w5 ⟨rfl, hb5⟩))
        all_goals (go_wp2_with fail; go_meet)
        all_goals exact ⟨rfl, (Below.refl wr.heap.size wr).drew.trans hb5⟩
      case rest =>
      obtain ⟨rfl, hb5⟩ := hcut
      generalize wc = w5 at *
      have y0 := (hb5.cell (p := ⟨bm + 1, 0, none⟩) (Nat.lt_of_lt_of_le hz hbXs)).trans z0
      have y1 := (hb5.cell (p := ⟨bm + 1, 1, none⟩) (Nat.lt_of_lt_of_le hz hbXs)).trans z1
      have y2 := (hb5.cell (p := ⟨bm + 1, 2, none⟩) (Nat.lt_of_lt_of_le hz hbXs)).trans z2
      have y3 := (hb5.cell (p := ⟨bm + 1, 3, none⟩) (Nat.lt_of_lt_of_le hz hbXs)).trans z3
      have py5 := (hb5.cell (p := ⟨bp, op + 1, none⟩) hpb).trans py
      have hbX5 := hbX.out.trans (hb5.mono hbXs)
      have qd2 := hide (qa.out lab y _ hbX5.drew)
      have hb5W := hide (hb.trans (hb5.mono hb.size))
      replace hbX5 := hide hbX5
      clear qd hb5 hb x0 x1 x2 x3 z0 z1 z2 z3 px py q0 hp
      go_upto_region 10 with fail
      go_cut [14, 15] (fun a b wx => a = .int .i64 (aloTo (r0, r1, ms, fs) y lab) ∧ b = .bool (aloOk (r0, r1, ms, fs) y lab) ∧ Below w5.heap.size w5 wx)
      case first =>
        go_region_law (first | (go_simp; go_at_call 91; (with_reducible refine qd2.out.mono ?_); rintro e w6 ⟨rfl, hb6⟩))
        all_goals (go_wp2_with fail; go_meet)
        all_goals exact ⟨rfl, rfl, (Below.refl w5.heap.size w5).drew.trans hb6⟩
      case rest =>
      obtain ⟨rfl, rfl, hb6⟩ := hcut
      generalize wc = w6 at *
      have hbX6 := hide (hbX5.out.trans (hb6.mono hbX5.out.size))
      have hb6W := hide (hb5W.out.trans (hb6.mono hb5W.out.size))
      clear hb6 qd2 y0 y1 y2 y3 py5 hbX5 hb5W
      by_cases hneg : goE es ls lab x < 0
      · have hv : Hid (prvF ((p0, p1, ls, es), vs, ns) (r0, r1, ms, fs) tr = ([], 3)) := by
          show _ = _
          rw [hval.out, ← hg.out, hbad.out (fun h => by omega)]
        clear hst hbad hg
        go_wp2_with fail
        go_ret2
        exact ⟨_, by rw [hv.out]; rfl, by rw [hv.out]; exact resS_nil' _ _ _, by first | exact hb0.out.trans (hbX6.out.mono hz') | (rw [hbm]; exact hb0.out.trans (hbX6.out.mono hz'))⟩
      · cases hok : aloOk (r0, r1, ms, fs) y lab with
        | false =>
          have hv : Hid (prvF ((p0, p1, ls, es), vs, ns) (r0, r1, ms, fs) tr = ([], 3)) := by
            show _ = _
            rw [hval.out, ← hg.out, hbad.out (by rw [hok]; exact fun h => by cases h.2)]
          clear hst hbad hg hok
          go_wp2_with fail
          go_ret2
          exact ⟨_, by rw [hv.out]; rfl, by rw [hv.out]; exact resS_nil' _ _ _, by first | exact hb0.out.trans (hbX6.out.mono hz') | (rw [hbm]; exact hb0.out.trans (hbX6.out.mono hz'))⟩
        | true =>
          have hnext : Hid (prvG (p0, p1, ls, es) (r0, r1, ms, fs) (tr.drop (k + 1)) (goE es ls lab x) (aloTo (r0, r1, ms, fs) y lab) = prvG (p0, p1, ls, es) (r0, r1, ms, fs) (tr.drop 0) p1 r1) := by
            show _ = _
            rw [← hg.out, hst.out (by omega) hok]
          have hsl := Sl.two w6 2 (goE es ls lab x) (aloTo (r0, r1, ms, fs) y lab) W2.heap.size hb6W.out.size
          have hbN : Below W2.heap.size W2 (w6.alloc (.cells #[.int .i64 (goE es ls lab x), .int .i64 (aloTo (r0, r1, ms, fs) y lab)] 2)) := hb6W.out.alloc hb6W.out.size _
          replace hsl := hide (hsl.more (Nat.le_refl _) (show _ ≤ (w6.alloc (.cells #[.int .i64 (goE es ls lab x), .int .i64 (aloTo (r0, r1, ms, fs) y lab)] 2)).heap.size by rw [World.size_alloc]; exact Nat.le_refl _))
          replace hbN := hide hbN
          clear hst hbad hg hok
          go_wp2_with fail
          go_roundg G2
          case measure => omega
          case rel => exact ⟨k + 1, _, _, _, _, by omega, rfl, by go_num, hsl, hnext, hbN.out, hG2⟩
    · have hkn : k = n := by omega
      subst hkn
      have hend := @prvG_end (p0, p1, ls, es) (r0, r1, ms, fs) tr k x y (by rw [hT.out.sl.len]; exact Nat.le_refl _)
      have hv : Hid (prvF ((p0, p1, ls, es), vs, ns) (r0, r1, ms, fs) tr = (prvL (p0, p1, ls, es) (r0, r1, ms, fs) x y, 0)) := by
        show _ = _
        rw [hval.out, ← hg.out, hend]
      have qp := prevented_calls bt p0 p1 r0 r1 A2 A3 B2 B3 n2 k2 n3 k3 m2 j2 m3 j3 ls ms es fs Ap cp x y wr lo hi lo' hi' _ _ (hTg.out.below hb hbtz)
        (t2W.out.below hbX (.inr (Nat.le_refl _))) (t3W.out.below hbX (.inr (Nat.le_refl _))) (u2W.out.below hbX (.inr (Nat.le_refl _))) (u3W.out.below hbX (.inr (Nat.le_refl _))) hes hfs hms hp.out hdp'.out hds.out
      replace qp := hide qp
      have hbXs := hbX.size
      replace hbX := hide hbX
      clear hend hg hb hp qs qa
      go_wp2_with fail
      refine qp.out.mono ?_
      rintro e w7 ⟨Ar, nr, cr, rfl, hsl, hb7⟩
      have hbX7 := hbX.out.trans (hb7.mono hbXs)
      have hmem := prv_mem hdp'.out (r0, r1, ms, fs) x y
      have hleq := prv_few hdp'.out (r0, r1, ms, fs) x y
      have hnr : nr ≤ 12 := by have h1 := hsl.len; rw [h1] at hleq; exact hleq
      have q9 := hide (sortS_calls Ar nr cr _ w7 _ _ hsl hnr (prv_rises hdp'.out (r0, r1, ms, fs) x y))
      have hR : Hid (∀ W, Below w7.heap.size w7 W → ResS W bm W.heap.size (.slice Ar nr cr) (prvL (p0, p1, ls, es) (r0, r1, ms, fs) x y)) := fun W hW =>
        ⟨⟨Ar, nr, cr, rfl, by unfold maxLen; omega, fun s hs => hs2.out s (hmem s hs), (hsl.below hW (.inr (Nat.le_refl _))).more (by omega) hW.size⟩, by omega⟩
      replace hbX7 := hide hbX7
      clear hsl hmem hleq hb7
      go_wp2_with fail
      refine q9.out.mono ?_
      rintro e w8 ⟨rfl, hb8⟩
      have hR8 := hide (hR.out w8 hb8)
      have hbX8 := hide (hbX7.out.trans (hb8.mono hbX7.out.size))
      clear hb8 q9 hR
      go_wp2_with fail
      go_ret2
      exact ⟨_, by rw [hv.out]; rfl, by rw [hv.out]; first | exact hR8.out | (rw [hbm]; exact hR8.out), by first | exact hb0.out.trans (hbX8.out.mono hz') | (rw [hbm]; exact hb0.out.trans (hbX8.out.mono hz'))⟩

end Go.Proofs.YtiaclddgllkgpaaGreatDoor
