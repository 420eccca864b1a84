/-
  ObserveLabel, by the reference and by the program. Conditions: sizes.
-/
import Derived.Test.YtiaclddgllkgpaaGreatDoorObs
namespace Go.Proofs.YtiaclddgllkgpaaGreatDoor
open Go.ChangeShapes Go.WideShapes Go.ChangeAt Go.RowKit Go.Sort
set_option linter.unusedVariables false
set_option linter.unusedSimpArgs false

/-- A monitor that was copied, taken apart. -/
structure MonAt (w : World) (lo hi : Nat) (x : CL) (A4 : Option Addr) (n4 k4 : Nat) (d : DM) : Prop where
  sys : ReadL w lo hi x d.1
  vers : SlI w lo hi A4 n4 d.2
  len4 : n4 ≤ 1048576
  tot : totL d.1 ≤ 1048576
theorem FreshM.open_ {v : Value} {d : DM} {w : World} {lo hi : Nat} (h : FreshM w lo hi v d) : ∃ x A4 n4 k4, v = .agg #[.int .i64 x.1, .int .i64 x.2.1, x.2.2.1, x.2.2.2, .slice A4 n4 k4] ∧ MonAt w lo hi x A4 n4 k4 d := by
  obtain ⟨⟨x, v4, rfl, hL, a0⟩, ht⟩ := h
  obtain ⟨A4, n4, k4, rfl, t4⟩ := a0.long
  have hl4 := t4.len
  simp only [totM] at ht
  exact ⟨x, A4, n4, k4, rfl, hL, t4, by omega, by omega⟩
theorem MonAt.below {w w' : World} {lo hi B : Nat} {x : CL} {A4 : Option Addr} {n4 k4 : Nat} {d : DM} (h : MonAt w lo hi x A4 n4 k4 d) (hb : Below B w w') (hB : hi ≤ B ∨ w.heap.size ≤ B) : MonAt w' lo hi x A4 n4 k4 d :=
  ⟨h.sys.below hb hB, h.vers.below hb hB, h.len4, h.tot⟩

/-- The state and the code. -/
def obsF (d : DM) (s : Int) (lab : ByteArray) : Int × Int :=
  if monV d = true then (if inB s 0 (d.1.1 - 1) = true ∧ visL lab = true then (if nextM d lab s < 0 then (0, 3) else (nextM d lab s, 0)) else (0, 2)) else (0, 1)

set_option maxRecDepth 100000 in
set_option maxHeartbeats 1600000 in
theorem specObserveLabel_u {v : Value} {d : DM} {w : World} {lo hi : Nat} (he : Env w) (h : FreshM w lo hi v d) (hh : hi ≤ w.heap.size) (s : Int) (lab : ByteArray) (hl : lab.size ≤ 1048576) :
    Calls Tryz.prog 32 #[v, .int .i64 s, .string lab] w fun e w' => e = .returned (.tuple #[.int .i64 (obsF d s lab).1, .int .i64 (obsF d s lab).2]) ∧ Below w.heap.size w w' := by
  obtain ⟨⟨s0, s1, v2, v3⟩, A4, n4, k4, rfl, hL, t4, hn4, htot⟩ := h.open_
  obtain ⟨⟨st, ini, ls, es⟩, vs⟩ := d
  have e0 := hL.1
  dsimp only at *
  subst e0
  have hb0 : Below w.heap.size w (w.alloc (.cells #[.int .i64 s0, .int .i64 s1, v2, v3, .slice A4 n4 k4] 35)) := (Below.refl _ _).alloc (Nat.le_refl _) _
  have k0 := heap_alloc_new w (.cells #[.int .i64 s0, .int .i64 s1, v2, v3, .slice A4 n4 k4] 35)
  have hz : w.heap.size < (w.alloc (.cells #[.int .i64 s0, .int .i64 s1, v2, v3, .slice A4 n4 k4] 35)).heap.size := by rw [World.size_alloc]; omega
  have hat : LtsAt (w.alloc (.cells #[.int .i64 s0, .int .i64 s1, v2, v3, .slice A4 n4 k4] 35)) w.heap.size (s0, s1, v2, v3) (s0, ini, ls, es) :=
    ⟨(hL.below hb0 (.inr (Nat.le_refl _))).more (Nat.zero_le _) (by omega), by omega, hz, (cell_of_row _ _ 0 _ _ (0, 0) k0).trans rfl, (cell_of_row _ _ 1 _ _ (0, 0) k0).trans rfl, (cell_of_row _ _ 2 _ _ (0, 0) k0).trans rfl, (cell_of_row _ _ 3 _ _ (0, 0) k0).trans rfl⟩
  have hc4 : (w.alloc (.cells #[.int .i64 s0, .int .i64 s1, v2, v3, .slice A4 n4 k4] 35)).cell? ⟨w.heap.size, 4, none⟩ = some (.slice A4 n4 k4) := (cell_of_row _ _ 4 _ _ (0, 0) k0).trans rfl
  have t4W := (t4.below hb0 (.inr (Nat.le_refl _))).more (Nat.zero_le _) (Nat.le_of_lt (Nat.lt_of_le_of_lt hh hz))
  have qa := l30Is_calls w.heap.size (s0, s1, v2, v3) A4 n4 k4 (s0, ini, ls, es) vs _ hat hc4 hn4 t4W
  have hz' := Nat.le_of_lt hz
  replace hb0 := hide hb0
  clear k0 hL t4 h
  cases hm : monV ((s0, ini, ls, es), vs) with
  | false =>
    have hv : Hid (obsF ((s0, ini, ls, es), vs) s lab = (0, 1)) := by show _ = _; unfold obsF; rw [if_neg (by rw [hm]; decide)]
    rw [hm] at qa
    replace qa := hide qa
    clear hat hc4 t4W hm
    go_enter Tryz.func32, Tryz.ntmps32
    go_wp2_with fail
    refine qa.out.mono ?_
    rintro e w1 ⟨rfl, hb⟩
    replace hb := hide hb
    go_wp2_with fail
    go_ret2
    exact ⟨by rw [hv.out]; rfl, hb0.out.trans (hb.out.mono hz')⟩
  | true =>
  have hlts := monV_lts hm
  have hst := lts_states hlts
  rw [hm] at qa
  replace qa := hide qa
  have qb := fun W (hW : Below (w.alloc (.cells #[.int .i64 s0, .int .i64 s1, v2, v3, .slice A4 n4 k4] 35)).heap.size (w.alloc (.cells #[.int .i64 s0, .int .i64 s1, v2, v3, .slice A4 n4 k4] 35)) W) => l11State_calls w.heap.size (s0, s1, v2, v3) (s0, ini, ls, es) s W (hat.below hW (Nat.le_refl _)) hlts
  dsimp only at qb
  cases hs : inB s 0 (s0 - 1) with
  | false =>
    have hv : Hid (obsF ((s0, ini, ls, es), vs) s lab = (0, 2)) := by show _ = _; unfold obsF; rw [if_pos hm, if_neg (by simp [hs])]
    simp only [hs] at qb
    replace qb := hide qb
    clear hat hc4 t4W hm hst
    go_enter Tryz.func32, Tryz.ntmps32
    go_wp2_with fail
    refine qa.out.mono ?_
    rintro e w1 ⟨rfl, hb⟩
    have qb1 := hide (qb.out _ hb)
    replace hb := hide hb
    go_wp2_with fail
    refine qb1.out.mono ?_
    rintro e w2 ⟨rfl, rfl⟩
    go_wp2_with fail
    go_ret2
    exact ⟨by rw [hv.out]; rfl, hb0.out.trans (hb.out.mono hz')⟩
  | true =>
  have hsr := inB_true.1 hs
  have hs0 := hsr.1
  have hs1 : s < s0 := by have := hsr.2; omega
  simp only [hs] at qb
  replace qb := hide qb
  have qc := fun W => l12Visible_calls (some ⟨W.heap.size, 0, none⟩) 1 1 [lab] (W.alloc (.cells #[.string lab] 9)) 0 _ (Sl.lit1' W 9 lab _ rfl 1 _ rfl) (by omega) (by simpa using hl)
  have hvb : visB [lab] = visL lab := by unfold visB; simp
  rw [hvb] at qc
  have qd := fun W (hW : Below (w.alloc (.cells #[.int .i64 s0, .int .i64 s1, v2, v3, .slice A4 n4 k4] 35)).heap.size (w.alloc (.cells #[.int .i64 s0, .int .i64 s1, v2, v3, .slice A4 n4 k4] 35)) W) => l30Next_calls w.heap.size (s0, s1, v2, v3) A4 n4 k4 (s0, ini, ls, es) vs s lab W (hat.below hW (Nat.le_refl _)) ((hW.cell (p := ⟨w.heap.size, 4, none⟩) hz).trans hc4) ((t4W.below hW (.inr (Nat.le_refl _))).more (Nat.le_refl _) hW.size) hm hs0 hs1
  cases hvl : visL lab with
  | false =>
    have hv : Hid (obsF ((s0, ini, ls, es), vs) s lab = (0, 2)) := by show _ = _; unfold obsF; rw [if_pos hm, if_neg (by simp [hvl])]
    simp only [hvl] at qc
    replace qc := hide qc
    clear hat hc4 t4W hm hst qd hsr hs1 hs hvb
    go_enter Tryz.func32, Tryz.ntmps32
    go_wp2_with fail
    refine qa.out.mono ?_
    rintro e w1 ⟨rfl, hb⟩
    have qb1 := hide (qb.out _ hb)
    have qc1 := hide (qc.out w1)
    have hba := hide (hb.trans ((Below.refl w1.heap.size w1).alloc (Nat.le_refl _) (.cells #[.string lab] 9) |>.mono hb.size))
    have hbs : Hid ((w.alloc (.cells #[.int .i64 s0, .int .i64 s1, v2, v3, .slice A4 n4 k4] 35)).heap.size ≤ (w1.alloc (.cells #[.string lab] 9)).heap.size) := hba.out.size
    replace hb := hide hb
    go_wp2_with fail
    refine qb1.out.mono ?_
    rintro e w2 ⟨rfl, rfl⟩
    go_wp2_with fail
    refine qc1.out.mono ?_
    rintro e w3 ⟨rfl, hb3⟩
    replace hb3 := hide hb3
    go_wp2_with fail
    go_ret2
    exact ⟨by rw [hv.out]; rfl, hb0.out.trans ((hba.out.trans (hb3.out.mono hbs.out)).mono hz')⟩
  | true =>
  simp only [hvl] at qc
  replace qc := hide qc
  replace qd := hide qd
  have hval : obsF ((s0, ini, ls, es), vs) s lab = (if nextM ((s0, ini, ls, es), vs) lab s < 0 then (0, 3) else (nextM ((s0, ini, ls, es), vs) lab s, 0)) := by unfold obsF; rw [if_pos hm, if_pos ⟨hs, hvl⟩]
  clear hat hc4 t4W hm hst hsr hs1 hs hvb hvl
  generalize nextM ((s0, ini, ls, es), vs) lab s = nx at *
  by_cases hnx : nx < 0
  · rw [if_pos hnx] at hval
    replace hval := hide hval
    go_enter Tryz.func32, Tryz.ntmps32
    go_wp2_with fail
    refine qa.out.mono ?_
    rintro e w1 ⟨rfl, hb⟩
    have qb1 := hide (qb.out _ hb)
    have qc1 := hide (qc.out w1)
    have hba := hide (hb.trans ((Below.refl w1.heap.size w1).alloc (Nat.le_refl _) (.cells #[.string lab] 9) |>.mono hb.size))
    have hbs : Hid ((w.alloc (.cells #[.int .i64 s0, .int .i64 s1, v2, v3, .slice A4 n4 k4] 35)).heap.size ≤ (w1.alloc (.cells #[.string lab] 9)).heap.size) := hba.out.size
    replace hb := hide hb
    go_wp2_with fail
    refine qb1.out.mono ?_
    rintro e w2 ⟨rfl, rfl⟩
    go_wp2_with fail
    refine qc1.out.mono ?_
    rintro e w3 ⟨rfl, hb3⟩
    have hbc := hide (hba.out.trans (hb3.mono hbs.out))
    have qd1 := hide (qd.out _ hbc.out)
    clear hb3
    go_wp2_with fail
    refine qd1.out.mono ?_
    rintro e w4 ⟨rfl, hb4⟩
    have hbd := hide (hbc.out.trans (hb4.mono hbc.out.size))
    clear hb4
    go_wp2_with fail
    go_ret2
    exact ⟨by rw [hval.out]; rfl, hb0.out.trans (hbd.out.mono hz')⟩
  · rw [if_neg hnx] at hval
    replace hval := hide hval
    go_enter Tryz.func32, Tryz.ntmps32
    go_wp2_with fail
    refine qa.out.mono ?_
    rintro e w1 ⟨rfl, hb⟩
    have qb1 := hide (qb.out _ hb)
    have qc1 := hide (qc.out w1)
    have hba := hide (hb.trans ((Below.refl w1.heap.size w1).alloc (Nat.le_refl _) (.cells #[.string lab] 9) |>.mono hb.size))
    have hbs : Hid ((w.alloc (.cells #[.int .i64 s0, .int .i64 s1, v2, v3, .slice A4 n4 k4] 35)).heap.size ≤ (w1.alloc (.cells #[.string lab] 9)).heap.size) := hba.out.size
    replace hb := hide hb
    go_wp2_with fail
    refine qb1.out.mono ?_
    rintro e w2 ⟨rfl, rfl⟩
    go_wp2_with fail
    refine qc1.out.mono ?_
    rintro e w3 ⟨rfl, hb3⟩
    have hbc := hide (hba.out.trans (hb3.mono hbs.out))
    have qd1 := hide (qd.out _ hbc.out)
    clear hb3
    go_wp2_with fail
    refine qd1.out.mono ?_
    rintro e w4 ⟨rfl, hb4⟩
    have hbd := hide (hbc.out.trans (hb4.mono hbc.out.size))
    clear hb4
    go_wp2_with fail
    go_ret2
    exact ⟨by rw [hval.out]; rfl, hb0.out.trans (hbd.out.mono hz')⟩

set_option maxRecDepth 100000 in
set_option maxHeartbeats 1600000 in
theorem implObserveLabel_u {v : Value} {d : DM} {w : World} {lo hi : Nat} (he : Env w) (h : FreshM w lo hi v d) (hh : hi ≤ w.heap.size) (s : Int) (lab : ByteArray) (hl : lab.size ≤ 1048576) :
    Calls Tryz.prog 33 #[v, .int .i64 s, .string lab] w fun e w' => e = .returned (.tuple #[.int .i64 (obsF d s lab).1, .int .i64 (obsF d s lab).2]) ∧ Below w.heap.size w w' := by
  obtain ⟨⟨s0, s1, v2, v3⟩, A4, n4, k4, rfl, hL, t4, hn4, htot⟩ := h.open_
  obtain ⟨⟨st, ini, ls, es⟩, vs⟩ := d
  have hb0 : Below w.heap.size w (w.alloc (.cells #[.int .i64 s0, .int .i64 s1, v2, v3, .slice A4 n4 k4] 35)) := (Below.refl _ _).alloc (Nat.le_refl _) _
  have qa := mon_calls (s0, s1, v2, v3) A4 n4 k4 (st, ini, ls, es) vs _ lo hi (hL.below hb0 (.inr (Nat.le_refl _))) (t4.below hb0 (.inr (Nat.le_refl _))) hn4 htot (he.below hb0 (Nat.le_refl _))
  obtain ⟨e0, e1, ⟨A2, n2, k2, e2, hn2, hs2, t2⟩, ⟨A3, n3, k3, e3, hn3, t3⟩⟩ := hL
  dsimp only at *
  subst e0 e1 e2 e3
  have hes : n3 ≤ 1048576 := by rw [← t3.len]; exact Nat.le_trans (totL_edg (s0, s1, ls, es)) htot
  have kE := heap_alloc_new w (.cells #[.int .i64 s0, .int .i64 s1, .slice A2 n2 k2, .slice A3 n3 k3, .slice A4 n4 k4] 35)
  have hz : w.heap.size < (w.alloc (.cells #[.int .i64 s0, .int .i64 s1, .slice A2 n2 k2, .slice A3 n3 k3, .slice A4 n4 k4] 35)).heap.size := by rw [World.size_alloc]; omega
  replace t2 := hide (t2.below hb0 (.inr (Nat.le_refl _)))
  replace t3 := hide (t3.below hb0 (.inr (Nat.le_refl _)))
  replace t4 := hide (t4.below hb0 (.inr (Nat.le_refl _)))
  replace he := hide (he.below hb0 (Nat.le_refl _))
  have hz' := Nat.le_of_lt hz
  replace hb0 := hide hb0
  clear hn2 hn3 hs2 htot h
  go_enter Tryz.func33, Tryz.ntmps33
  go_upto_region 1 with fail
  generalize (w.alloc (.cells #[.int .i64 s0, .int .i64 s1, .slice A2 n2 k2, .slice A3 n3 k3, .slice A4 n4 k4] 35)) = W0 at *
  have c0 : W0.cell? ⟨w.heap.size, 0, none⟩ = some (.int .i64 s0) := (cell_of_row _ _ 0 _ _ (0, 0) kE).trans rfl
  have c1 : W0.cell? ⟨w.heap.size, 1, none⟩ = some (.int .i64 s1) := (cell_of_row _ _ 1 _ _ (0, 0) kE).trans rfl
  have c2 : W0.cell? ⟨w.heap.size, 2, none⟩ = some (.slice A2 n2 k2) := (cell_of_row _ _ 2 _ _ (0, 0) kE).trans rfl
  have c3 : W0.cell? ⟨w.heap.size, 3, none⟩ = some (.slice A3 n3 k3) := (cell_of_row _ _ 3 _ _ (0, 0) kE).trans rfl
  have c4 : W0.cell? ⟨w.heap.size, 4, none⟩ = some (.slice A4 n4 k4) := (cell_of_row _ _ 4 _ _ (0, 0) kE).trans rfl
  cases hm : monV ((s0, s1, ls, es), vs) with
  | false =>
    have hv : Hid (obsF ((s0, s1, ls, es), vs) s lab = (0, 1)) := by show _ = _; unfold obsF; rw [if_neg (by rw [hm]; decide)]
    rw [hm] at qa
    replace qa := hide qa
    clear hm kE
    go_wp2_with fail
    refine qa.out.mono ?_
    rintro e w1 ⟨rfl, hb⟩
    replace hb := hide hb
    go_wp2_with fail
    go_ret2
    exact ⟨by rw [hv.out]; rfl, hb0.out.trans (hb.out.mono hz')⟩
  | true =>
  have hst := (lts_states (monV_lts hm)).1
  have h1s := hst.1
  have h2s := hst.2
  rw [hm] at qa
  replace qa := hide qa
  have qb := fun W => isState_calls s0 s1 s (.slice A2 n2 k2) (.slice A3 n3 k3) W h1s h2s
  cases hs : inB s 0 (s0 - 1) with
  | false =>
    have hv : Hid (obsF ((s0, s1, ls, es), vs) s lab = (0, 2)) := by show _ = _; unfold obsF; rw [if_pos hm, if_neg (by simp [hs])]
    simp only [hs] at qb
    replace qb := hide qb
    clear hm hs hst
    go_wp2_with fail
    refine qa.out.mono ?_
    rintro e w1 ⟨rfl, hb⟩
    clear c0 c1 c2 c3 c4
    have k1 := (hb.block _ hz).trans kE
    have c0 : w1.cell? ⟨w.heap.size, 0, none⟩ = some (.int .i64 s0) := (cell_of_row _ _ 0 _ _ (0, 0) k1).trans rfl
    have c1 : w1.cell? ⟨w.heap.size, 1, none⟩ = some (.int .i64 s1) := (cell_of_row _ _ 1 _ _ (0, 0) k1).trans rfl
    have c2 : w1.cell? ⟨w.heap.size, 2, none⟩ = some (.slice A2 n2 k2) := (cell_of_row _ _ 2 _ _ (0, 0) k1).trans rfl
    have c3 : w1.cell? ⟨w.heap.size, 3, none⟩ = some (.slice A3 n3 k3) := (cell_of_row _ _ 3 _ _ (0, 0) k1).trans rfl
    replace hb := hide hb
    clear kE k1
    go_wp2_with fail
    refine (qb.out w1).mono ?_
    rintro e w2 ⟨rfl, hb2⟩
    have hbw := hide (hb.out.trans (hb2.mono hb.out.size))
    clear hb2 c0 c1 c2 c3
    go_wp2_with fail
    go_ret2
    exact ⟨by rw [hv.out]; rfl, hb0.out.trans (hbw.out.mono hz')⟩
  | true =>
  have hsr := inB_true.1 hs
  have hs0 := hsr.1
  have hs1 : s < s0 := by have := hsr.2; omega
  simp only [hs] at qb
  replace qb := hide qb
  have qc := fun W (hW : Below W0.heap.size W0 W) => areVisible_calls (some ⟨W.heap.size, 0, none⟩) 1 1 [lab] (W.alloc (.cells #[.string lab] 9)) 0 _ (Sl.lit1' W 9 lab _ rfl 1 _ rfl) (by omega) (by simpa using hl) (he.out.below (hW.alloc hW.size _) (Nat.le_refl _))
  have hvb : visB [lab] = visL lab := by unfold visB; simp
  rw [hvb] at qc
  have qd := fun W (hW : Below W0.heap.size W0 W) => observe_calls s0 s1 A2 n2 k2 A3 n3 k3 A4 n4 k4 vs s lab ls es W lo hi (t2.out.below hW (.inr (Nat.le_refl _))) (t3.out.below hW (.inr (Nat.le_refl _))) (t4.out.below hW (.inr (Nat.le_refl _))) hes hm hs0 hs1
  have hval : obsF ((s0, s1, ls, es), vs) s lab = if visL lab = true then (if nextM ((s0, s1, ls, es), vs) lab s < 0 then (0, 3) else (nextM ((s0, s1, ls, es), vs) lab s, 0)) else (0, 2) := by
    unfold obsF
    rw [if_pos hm]
    simp [hs]
  replace qd := hide qd
  replace qc := hide qc
  clear hm hs hst hsr hs1 hvb t2 t3 t4 he
  generalize nextM ((s0, s1, ls, es), vs) lab s = nx at *
  generalize hvl : visL lab = vb at *
  go_wp2_with fail
  refine qa.out.mono ?_
  rintro e w1 ⟨rfl, hb⟩
  clear c0 c1 c2 c3 c4
  have k1 := (hb.block _ hz).trans kE
  have c0 : w1.cell? ⟨w.heap.size, 0, none⟩ = some (.int .i64 s0) := (cell_of_row _ _ 0 _ _ (0, 0) k1).trans rfl
  have c1 : w1.cell? ⟨w.heap.size, 1, none⟩ = some (.int .i64 s1) := (cell_of_row _ _ 1 _ _ (0, 0) k1).trans rfl
  have c2 : w1.cell? ⟨w.heap.size, 2, none⟩ = some (.slice A2 n2 k2) := (cell_of_row _ _ 2 _ _ (0, 0) k1).trans rfl
  have c3 : w1.cell? ⟨w.heap.size, 3, none⟩ = some (.slice A3 n3 k3) := (cell_of_row _ _ 3 _ _ (0, 0) k1).trans rfl
  clear k1
  replace hb := hide hb
  go_wp2_with fail
  refine (qb.out w1).mono ?_
  rintro e w2 ⟨rfl, hb2⟩
  have hbw := hb.out.trans (hb2.mono hb.out.size)
  have qc1 := hide (qc.out w2 hbw)
  clear hb2 c0 c1 c2 c3
  have hba := hbw.alloc hbw.size (.cells #[.string lab] 9)
  have hbz := hba.size
  replace hbw := hide hbw
  replace hba := hide hba
  cases vb with
  | false =>
    rw [if_neg (by decide)] at hval
    replace hval := hide hval
    clear kE
    go_wp2_with fail
    refine qc1.out.mono ?_
    rintro e w3 ⟨rfl, hb3⟩
    replace hb3 := hide hb3
    go_wp2_with fail
    go_ret2
    exact ⟨by rw [hval.out]; rfl, hb0.out.trans ((hba.out.trans (hb3.out.mono hbz)).mono hz')⟩
  | true =>
  rw [if_pos rfl] at hval
  go_wp2_with fail
  refine qc1.out.mono ?_
  rintro e w3 ⟨rfl, hb3⟩
  have hbc := hba.out.trans (hb3.mono hbz)
  have k3' := (hbc.block _ hz).trans kE
  have d0 : w3.cell? ⟨w.heap.size, 0, none⟩ = some (.int .i64 s0) := (cell_of_row _ _ 0 _ _ (0, 0) k3').trans rfl
  have d1 : w3.cell? ⟨w.heap.size, 1, none⟩ = some (.int .i64 s1) := (cell_of_row _ _ 1 _ _ (0, 0) k3').trans rfl
  have d2 : w3.cell? ⟨w.heap.size, 2, none⟩ = some (.slice A2 n2 k2) := (cell_of_row _ _ 2 _ _ (0, 0) k3').trans rfl
  have d3 : w3.cell? ⟨w.heap.size, 3, none⟩ = some (.slice A3 n3 k3) := (cell_of_row _ _ 3 _ _ (0, 0) k3').trans rfl
  have d4 : w3.cell? ⟨w.heap.size, 4, none⟩ = some (.slice A4 n4 k4) := (cell_of_row _ _ 4 _ _ (0, 0) k3').trans rfl
  have qd1 := hide (qd.out _ hbc)
  replace hbc := hide hbc
  clear hb3 kE k3'
  by_cases hnx : nx < 0
  · rw [if_pos hnx] at hval
    replace hval := hide hval
    go_wp2_with fail
    refine qd1.out.mono ?_
    rintro e w4 ⟨rfl, hb4⟩
    have hbd := hide (hbc.out.trans (hb4.mono hbc.out.size))
    clear hb4 d0 d1 d2 d3 d4
    go_wp2_with fail
    go_ret2
    exact ⟨by rw [hval.out]; rfl, hb0.out.trans (hbd.out.mono hz')⟩
  · rw [if_neg hnx] at hval
    replace hval := hide hval
    go_wp2_with fail
    refine qd1.out.mono ?_
    rintro e w4 ⟨rfl, hb4⟩
    have hbd := hide (hbc.out.trans (hb4.mono hbc.out.size))
    clear hb4 d0 d1 d2 d3 d4
    go_wp2_with fail
    go_ret2
    exact ⟨by rw [hval.out]; rfl, hb0.out.trans (hbd.out.mono hz')⟩

end Go.Proofs.YtiaclddgllkgpaaGreatDoor
