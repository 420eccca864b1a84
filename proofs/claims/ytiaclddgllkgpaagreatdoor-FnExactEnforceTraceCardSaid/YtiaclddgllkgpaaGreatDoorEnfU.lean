/-
  EnforceTrace, by the reference and by the program. Conditions: sizes.
-/
import Derived.Test.YtiaclddgllkgpaaGreatDoorRunU
import Derived.Test.YtiaclddgllkgpaaGreatDoorMarkS
namespace Go.Proofs.YtiaclddgllkgpaaGreatDoor
open Go.ChangeShapes Go.WideShapes Go.ChangeAt Go.RowKit Go.Sort
set_option linter.unusedVariables false
set_option linter.unusedSimpArgs false

theorem resS_nil (w : World) (lo hi : Nat) : ResS w lo hi (.slice none 0 0) [] := ⟨⟨none, 0, 0, rfl, Nat.zero_le _, (fun s hs => by cases hs), Sl.nil_⟩, Nat.zero_le _⟩
theorem enfG_mem {d : DM} : ∀ {tr : List ByteArray} {x : Int} {s : ByteArray}, s ∈ enfG d tr x → s ∈ tr
  | [], _, _, h => by cases h
  | lab :: t, x, s, h => by
    unfold enfG at h
    split at h
    · rcases List.mem_cons.1 h with rfl | h
      · simp
      · exact List.mem_cons_of_mem _ (enfG_mem h)
    · exact List.mem_cons_of_mem _ (enfG_mem h)
theorem resS_of {w : World} {lo hi lo' hi' n : Nat} {A : Option Addr} {c : Nat} {l tr : List ByteArray} {B : Option Addr} {m : Nat} (h : SlS w lo hi A n l) (hT : TraceAt w lo' hi' B m tr) (hm : ∀ s ∈ l, s ∈ tr) (hl : l.length ≤ tr.length) : ResS w lo hi (.slice A n c) l := by
  have h1 := h.len
  have h2 := hT.sl.len
  have h3 := hT.len
  exact ⟨⟨A, n, c, rfl, by unfold maxLen; omega, fun s hs => by have := hT.each s (hm s hs); unfold maxLen; omega, h⟩, by omega⟩

set_option maxRecDepth 100000 in
set_option maxHeartbeats 1600000 in
theorem specEnforceTrace_u {v u : Value} {d : DM} {tr : List ByteArray} {w : World} {lo hi lo' hi' : Nat} (he : Env w) (h : FreshM w lo hi v d) (hh : hi ≤ w.heap.size) (g : FreshSS w lo' hi' u tr) (gh : hi' ≤ w.heap.size) :
    Calls Tryz.prog 39 #[v, u] w fun e w' => ∃ u0, e = .returned (.tuple #[u0, .int .i64 (enfF d tr).2]) ∧ ResS w' w.heap.size w'.heap.size u0 (enfF d tr).1 ∧ Below w.heap.size w w' := by
  obtain ⟨⟨s0, s1, v2, v3⟩, A4, n4, k4, rfl, hL, t4, hn4, htot⟩ := h.open_
  obtain ⟨A, n, c, rfl, hT⟩ := FreshS.open_ g.1 g.2
  obtain ⟨⟨st, ini, ls, es⟩, vs⟩ := d
  have e0 := hL.1
  have e1 := hL.2.1
  dsimp only at *
  subst e0 e1
  have hb0 : Below w.heap.size w (w.alloc (.cells #[.int .i64 s0, .int .i64 s1, v2, v3, .slice A4 n4 k4] 35)) := (Below.refl _ _).alloc (Nat.le_refl _) _
  have k0 := heap_alloc_new w (.cells #[.int .i64 s0, .int .i64 s1, v2, v3, .slice A4 n4 k4] 35)
  have hz : w.heap.size < (w.alloc (.cells #[.int .i64 s0, .int .i64 s1, v2, v3, .slice A4 n4 k4] 35)).heap.size := by rw [World.size_alloc]; omega
  replace hT := hT.below hb0 (.inr (Nat.le_refl _))
  have hLW := (hL.below hb0 (.inr (Nat.le_refl _))).more (Nat.zero_le _) (Nat.le_of_lt (Nat.lt_of_le_of_lt hh hz))
  have t4W := (t4.below hb0 (.inr (Nat.le_refl _))).more (Nat.zero_le _) (Nat.le_of_lt (Nat.lt_of_le_of_lt hh hz))
  have hz' := Nat.le_of_lt hz
  replace hb0 := hide hb0
  clear hL t4 h g
  go_enter Tryz.func39, Tryz.ntmps39
  go_upto_region 1 with fail
  generalize (w.alloc (.cells #[.int .i64 s0, .int .i64 s1, v2, v3, .slice A4 n4 k4] 35)) = W0 at *
  have hat : LtsAt W0 w.heap.size (s0, s1, v2, v3) (s0, s1, ls, es) :=
    ⟨hLW, by omega, hz, (cell_of_row _ _ 0 _ _ (0, 0) k0).trans rfl, (cell_of_row _ _ 1 _ _ (0, 0) k0).trans rfl, (cell_of_row _ _ 2 _ _ (0, 0) k0).trans rfl, (cell_of_row _ _ 3 _ _ (0, 0) k0).trans rfl⟩
  have c1 : W0.cell? ⟨w.heap.size, 1, none⟩ = some (.int .i64 s1) := (cell_of_row _ _ 1 _ _ (0, 0) k0).trans rfl
  have hc4 : W0.cell? ⟨w.heap.size, 4, none⟩ = some (.slice A4 n4 k4) := (cell_of_row _ _ 4 _ _ (0, 0) k0).trans rfl
  have qa := l30Is_calls w.heap.size (s0, s1, v2, v3) A4 n4 k4 (s0, s1, ls, es) vs _ hat hc4 hn4 t4W
  have qb := fun W (hW : Below W0.heap.size W0 W) => l12Visible_calls A n c tr W lo' hi' (hT.sl.below hW (.inr (Nat.le_refl _))) hT.len hT.each
  generalize hbm : w.heap.size = bm at *
  clear hLW k0
  cases hm : monV ((s0, s1, ls, es), vs) with
  | false =>
    have hv : Hid (enfF ((s0, s1, ls, es), vs) tr = ([], 1)) := by show _ = _; unfold enfF; rw [if_neg (by rw [hm]; decide)]
    rw [hm] at qa
    replace qa := hide qa
    clear hat hc4 t4W hm qb hT
    go_wp2_with fail
    refine qa.out.mono ?_
    rintro e w1 ⟨rfl, hb⟩
    replace hb := hide hb
    go_wp2_with fail
    go_ret2
    exact ⟨_, by rw [hv.out]; rfl, by rw [hv.out]; exact resS_nil _ _ _, by first | exact hb0.out.trans (hb.out.mono hz') | (rw [hbm]; exact hb0.out.trans (hb.out.mono hz'))⟩
  | true =>
  have hst := lts_states (monV_lts hm)
  dsimp only at hst
  rw [hm] at qa
  replace qa := hide qa
  cases hvi : visB tr with
  | false =>
    have hv : Hid (enfF ((s0, s1, ls, es), vs) tr = ([], 2)) := by show _ = _; unfold enfF; rw [if_pos hm, if_neg (by rw [hvi]; decide)]
    simp only [hvi] at qb
    replace qb := hide qb
    clear hat hc4 t4W hm hT
    go_wp2_with fail
    refine qa.out.mono ?_
    rintro e w1 ⟨rfl, hb⟩
    have qb1 := hide (qb.out _ hb)
    replace hb := hide hb
    go_wp2_with fail
    refine qb1.out.mono ?_
    rintro e w2 ⟨rfl, hb2⟩
    replace hb2 := hide hb2
    go_wp2_with fail
    go_ret2
    exact ⟨_, by rw [hv.out]; rfl, by rw [hv.out]; exact resS_nil _ _ _, by first | exact hb0.out.trans ((hb.out.trans (hb2.out.mono hb.out.size)).mono hz') | (rw [hbm]; exact hb0.out.trans ((hb.out.trans (hb2.out.mono hb.out.size)).mono hz'))⟩
  | true =>
  have hval0 : enfF ((s0, s1, ls, es), vs) tr = (if verM ((s0, s1, ls, es), vs) s1 = 2 then ([], 6) else (enfG ((s0, s1, ls, es), vs) (tr.drop 0) s1, 0)) := by unfold enfF; rw [if_pos hm, if_pos hvi]; rfl
  simp only [hvi] at qb
  replace qb := hide qb
  have hlen := monV_len hm
  have l4 := t4W.len
  dsimp only at hlen
  have hini0 := hst.2.1
  have hnl := hT.len
  have hini1 : s1 < s0 := by have := hst.2.2; omega
  have hE := hide elem_str
  go_wp2_with fail
  refine qa.out.mono ?_
  rintro e w1 ⟨rfl, hb⟩
  have qb1 := hide (qb.out _ hb)
  have d1 := (hb.cell (p := ⟨bm, 1, none⟩) hz).trans c1
  replace hb := hide hb
  go_wp2_with fail
  refine qb1.out.mono ?_
  rintro e w2 ⟨rfl, hb2⟩
  have f1 := (hb2.cell (p := ⟨bm, 1, none⟩) (Nat.lt_of_lt_of_le hz hb.out.size)).trans d1
  have hb3 := hb.out.trans (hb2.mono hb.out.size)
  have f4 := (hb3.cell (p := ⟨bm, 4, none⟩) hz).trans hc4
  have hsn0 : s1.toNat < n4 := by omega
  have hsI0 : s1 < (n4 : Int) := by omega
  obtain ⟨bv, ov, v0, rfl, -, -, -, hx0, p00, -⟩ := SlI.get (t4W.below hb3 (.inr (Nat.le_refl _))) hsn0
  have hver0 : verM ((s0, s1, ls, es), vs) s1 = v0 := by unfold verM; rw [hx0]; rfl
  rw [hver0] at hval0
  clear hb2 hb qb1 qb qa c1 d1 hx0 hver0
  replace hb3 := hide hb3
  by_cases hv2 : v0 = 2
  · rw [if_pos hv2] at hval0
    replace hval0 := hide hval0
    subst hv2
    clear hat t4W hT hst
    go_wp2_with fail
    go_ret2
    exact ⟨_, by rw [hval0.out]; rfl, by rw [hval0.out]; exact resS_nil _ _ _, by first | exact hb0.out.trans (hb3.out.mono hz') | (rw [hbm]; exact hb0.out.trans (hb3.out.mono hz'))⟩
  rw [if_neg hv2] at hval0
  have hvb : (v0 == 2) = false := by rw [beq_eq_false_iff_ne]; exact hv2
  have hrel0 : Hid ([] ++ enfG ((s0, s1, ls, es), vs) (tr.drop 0) s1 = (enfF ((s0, s1, ls, es), vs) tr).1) := by show _ = _; rw [hval0]; rfl
  have hcode : Hid ((enfF ((s0, s1, ls, es), vs) tr).2 = 0) := by show _ = _; rw [hval0]
  have hmem : Hid (∀ s ∈ (enfF ((s0, s1, ls, es), vs) tr).1, s ∈ tr) := fun s hs => by rw [hval0] at hs; exact enfG_mem hs
  have hlen9 : Hid ((enfF ((s0, s1, ls, es), vs) tr).1.length ≤ tr.length) := by show _ ≤ _; rw [hval0]; exact enfG_len _ _ _
  have hO0 := hide (Own.made (f := strv) (size := 1) w2 9 (show W0.heap.size ≤ w2.heap.size from hb3.out.size))
  have hB0 := hide (hb3.out.alloc hb3.out.size (.cells #[] 9))
  have hT' := hide hT
  have hat' := hide hat
  have t4' := hide t4W
  replace hm := hide hm
  replace l4 := hide l4
  replace hlen := hide hlen
  clear hT hat t4W hst hvi hval0 hv2
  go_upto_region 10 with fail
  clear f1 f4 p00 hvb
  go_loopw [6, 7, 8] (fun s v i wr => ∃ (k : Nat) (x : Int) (A : Option Addr) (m c : Nat) (acc : List ByteArray), k ≤ n ∧ 0 ≤ x ∧ x < s0 ∧ s = .int .i64 x ∧ v = .slice A m c ∧ i = .int .i64 (k : Nat) ∧ m ≤ k ∧ Hid (Own 1 strv wr W0.heap.size 9 A m c acc) ∧ Hid (acc ++ enfG ((s0, s1, ls, es), vs) (tr.drop k) x = (enfF ((s0, s1, ls, es), vs) tr).1) ∧ Below W0.heap.size W0 wr) (fun _ _ i _ => n - (intOf i).toNat)
  case atStart => exact ⟨0, s1, _, 0, 0, [], Nat.zero_le _, hini0, hini1, rfl, rfl, rfl, Nat.zero_le _, hO0, hrel0, hB0.out⟩
  case round =>
    clear hrel0 hb3 hO0 hB0
    obtain ⟨k, x, A', m, c', acc, hk, hx0, hx1, rfl, rfl, rfl, hmk, hown, hg, hb⟩ := hrel
    have hc4' := (hb.cell (p := ⟨bm, 4, none⟩) hz).trans hc4
    by_cases hlt : k < n
    · have hltI : (k : Int) < (n : Int) := by omega
      obtain ⟨b2, off2, lab, rfl, -, -, g32, hlab, q0, -⟩ := SlS.get hT'.out.sl hlt
      replace q0 := (hb.cell (p := ⟨b2, off2 + k, none⟩) g32).trans q0
      have qd := l30Next_calls bm (s0, s1, v2, v3) _ n4 k4 (s0, s1, ls, es) vs x lab wr (hat'.out.below hb (Nat.le_refl _)) hc4' ((t4'.out.below hb (.inr (Nat.le_refl _))).more (Nat.le_refl _) hb.size) hm.out hx0 hx1
      have hr := nextM_range hm.out lab hx0 hx1
      have hs1 := @enfG_take ((s0, s1, ls, es), vs) tr k lab x hlab
      have hs2 := @enfG_skip ((s0, s1, ls, es), vs) tr k lab x hlab
      dsimp only at hr
      generalize nextM ((s0, s1, ls, es), vs) lab x = nx at *
      have hr2 := hr.2
      replace qd := hide qd
      have g32r : b2 < wr.heap.size := Nat.lt_of_lt_of_le g32 hb.size
      clear hlab hr
      by_cases hnx : nx < 0
      · have hv : Hid (acc ++ enfG ((s0, s1, ls, es), vs) (tr.drop (k + 1)) x = (enfF ((s0, s1, ls, es), vs) tr).1) := by show _ = _; rw [← hs2 (by omega)]; exact hg.out
        clear hs1 hs2 hg hr2
        go_wp2_with fail
        refine qd.out.mono ?_
        rintro e w4 ⟨rfl, hb4⟩
        have hbd := hide (hb.trans (hb4.mono hb.size))
        have hown4 := hide (hown.out.below hb4 (Nat.le_refl _))
        clear hb4 q0 hc4' hown
        go_wp2_with fail
        go_roundw
        case rel => exact ⟨k + 1, x, A', m, c', acc, by omega, hx0, hx1, rfl, rfl, by go_num, by omega, hown4, hv, hbd.out⟩
        case measure => simp [intOf]; omega
      · have hnx0 : 0 ≤ nx := by omega
        have hnn : nx.toNat < n4 := by have h1 := hlen.out; have h2 := l4.out; omega
        have hnI : nx < (n4 : Int) := by omega
        obtain ⟨b5, o5, vn, e5, -, -, g35, hx5, p5, -⟩ := SlI.get t4'.out hnn
        have hver : verM ((s0, s1, ls, es), vs) nx = vn := by unfold verM; rw [hx5]; rfl
        have p5r := (hb.cell (p := ⟨b5, o5 + nx.toNat, none⟩) g35).trans p5
        have g35r : b5 < wr.heap.size := Nat.lt_of_lt_of_le g35 hb.size
        cases e5
        by_cases hv2 : vn = 2
        · have hv : Hid (acc ++ enfG ((s0, s1, ls, es), vs) (tr.drop (k + 1)) x = (enfF ((s0, s1, ls, es), vs) tr).1) := by show _ = _; rw [← hs2 (by rw [hver]; omega)]; exact hg.out
          subst hv2
          clear hs1 hs2 hg hr2 hx5 hver p5
          go_wp2_with fail
          refine qd.out.mono ?_
          rintro e w4 ⟨rfl, hb4⟩
          have hbd := hide (hb.trans (hb4.mono hb.size))
          have hown4 := hide (hown.out.below hb4 (Nat.le_refl _))
          have r4 := (hb4.cell (p := ⟨bm, 4, none⟩) (Nat.lt_of_lt_of_le hz hb.size)).trans hc4'
          have r5 := (hb4.cell (p := ⟨_, _, none⟩) g35r).trans p5r
          clear hb4 q0 hc4' hown p5r
          go_wp2_with fail
          go_roundw
          case rel => exact ⟨k + 1, x, A', m, c', acc, by omega, hx0, hx1, rfl, rfl, by go_num, by omega, hown4, hv, hbd.out⟩
          case measure => simp [intOf]; omega
        · have hv : Hid ((acc ++ [lab]) ++ enfG ((s0, s1, ls, es), vs) (tr.drop (k + 1)) nx = (enfF ((s0, s1, ls, es), vs) tr).1) := by show _ = _; rw [List.append_assoc, List.singleton_append, ← hs1 hnx0 (by rw [hver]; exact hv2)]; exact hg.out
          have hvb : (vn == 2) = false := by rw [beq_eq_false_iff_ne]; exact hv2
          clear hs1 hs2 hg hx5 hver p5 hv2
          go_wp2_with fail
          refine qd.out.mono ?_
          rintro e w4 ⟨rfl, hb4⟩
          have hbd := hide (hb.trans (hb4.mono hb.size))
          have hown4 := hide (hown.out.below hb4 (Nat.le_refl _))
          have r4 := (hb4.cell (p := ⟨bm, 4, none⟩) (Nat.lt_of_lt_of_le hz hb.size)).trans hc4'
          have r5 := (hb4.cell (p := ⟨_, _, none⟩) g35r).trans p5r
          have r6 := (hb4.cell (p := ⟨b2, off2 + k, none⟩) g32r).trans q0
          have hza : ∀ o, W0.heap.size ≤ (w4.alloc o).heap.size := fun o => by rw [World.size_alloc]; have := hbd.out.size; omega
          clear hb4 q0 hc4' hown p5r
          go_wp2_with (first | (at_builtin; (with_reducible refine wpList_app rfl (.tmp 47) (.tmp 52) rfl hE.out flat_strv rfl (hown4.out.alloc _) rfl (Sl.lit1' w4 9 lab _ rfl 1 _ ?c0) ?c1 (hza _) ?_); rotate_right; intro A5 c5 w5 hown5 hgr5 hb5 _))
          case c0 => rfl
          case c1 => omega
          have hb6 := hide ((hbd.out.alloc hbd.out.size (.cells #[.string lab] 9)).trans hb5)
          clear hgr5 hb5
          go_roundw
          case rel => exact ⟨k + 1, nx, A5, m + 1, c5, acc ++ [lab], by omega, hnx0, hr2, rfl, rfl, by go_num, by omega, hown5, hv, hb6.out⟩
          case measure => simp [intOf]; omega
    · have hkn : k = n := by omega
      subst hkn
      have hge := enfG_end (d := ((s0, s1, ls, es), vs)) (tr := tr) (k := k) (s := x) (by rw [hT'.out.sl.len]; exact Nat.le_refl _)
      have hfin := hg.out
      rw [hge, List.append_nil] at hfin
      have hres := hown.out.sl flat_strv
      rw [hfin] at hres
      have hR : Hid (ResS wr bm wr.heap.size (.slice A' m c') (enfF ((s0, s1, ls, es), vs) tr).1) := (resS_of (hres.more (show bm ≤ W0.heap.size by omega) (Nat.le_refl _)) (hT'.out.below hb (.inr (Nat.le_refl _))) hmem.out hlen9.out)
      replace hb := hide hb
      clear hge hfin hg hown hres hc4'
      go_wp2_with fail
      go_ret2
      exact ⟨_, by rw [hcode.out]; rfl, by first | exact hR.out | (rw [hbm]; exact hR.out), by first | exact hb0.out.trans (hb.out.mono hz') | (rw [hbm]; exact hb0.out.trans (hb.out.mono hz'))⟩

set_option maxRecDepth 100000 in
set_option maxHeartbeats 1600000 in
theorem implEnforceTrace_u {v u : Value} {d : DM} {tr : List ByteArray} {w : World} {lo hi lo' hi' : Nat} (he : Env w) (h : FreshM w lo hi v d) (hh : hi ≤ w.heap.size) (g : FreshSS w lo' hi' u tr) (gh : hi' ≤ w.heap.size) :
    Calls Tryz.prog 40 #[v, u] w fun e w' => ∃ u0, e = .returned (.tuple #[u0, .int .i64 (enfF d tr).2]) ∧ ResS w' w.heap.size w'.heap.size u0 (enfF d tr).1 ∧ Below w.heap.size w w' := by
  obtain ⟨⟨s0, s1, v2, v3⟩, A4, n4, k4, rfl, hL, t4, hn4, htot⟩ := h.open_
  obtain ⟨A, n, c, rfl, hT⟩ := FreshS.open_ g.1 g.2
  obtain ⟨⟨st, ini, ls, es⟩, vs⟩ := d
  have hb0 : Below w.heap.size w (w.alloc (.cells #[.int .i64 s0, .int .i64 s1, v2, v3, .slice A4 n4 k4] 35)) := (Below.refl _ _).alloc (Nat.le_refl _) _
  have qa := monitorCode_calls s0 s1 v2 v3 A4 n4 k4 (st, ini, ls, es) vs A n c tr _ lo hi lo' hi' (hL.below hb0 (.inr (Nat.le_refl _))) (t4.below hb0 (.inr (Nat.le_refl _))) hn4 htot (hT.below hb0 (.inr (Nat.le_refl _))) (he.below hb0 (Nat.le_refl _))
  obtain ⟨e0, e1, ⟨A2, n2, k2, e2, hn2, hs2, t2⟩, ⟨A3, n3, k3, e3, hn3, t3⟩⟩ := hL
  dsimp only at *
  subst e0 e1 e2 e3
  have hes : n3 ≤ 1048576 := by rw [← t3.len]; exact Nat.le_trans (totL_edg (s0, s1, ls, es)) htot
  have kE := heap_alloc_new w (.cells #[.int .i64 s0, .int .i64 s1, .slice A2 n2 k2, .slice A3 n3 k3, .slice A4 n4 k4] 35)
  have hz : w.heap.size < (w.alloc (.cells #[.int .i64 s0, .int .i64 s1, .slice A2 n2 k2, .slice A3 n3 k3, .slice A4 n4 k4] 35)).heap.size := by rw [World.size_alloc]; omega
  replace t2 := hide (t2.below hb0 (.inr (Nat.le_refl _)))
  replace t3 := hide (t3.below hb0 (.inr (Nat.le_refl _)))
  replace t4 := hide (t4.below hb0 (.inr (Nat.le_refl _)))
  have hnl := hT.len
  replace hT := hide (hT.below hb0 (.inr (Nat.le_refl _)))
  have hz' := Nat.le_of_lt hz
  replace hb0 := hide hb0
  clear hn2 hn3 hs2 htot h g he
  go_enter Tryz.func40, Tryz.ntmps40
  go_upto_region 1 with fail
  generalize (w.alloc (.cells #[.int .i64 s0, .int .i64 s1, .slice A2 n2 k2, .slice A3 n3 k3, .slice A4 n4 k4] 35)) = W0 at *
  generalize hbm : w.heap.size = bm at *
  have c0 : W0.cell? ⟨bm, 0, none⟩ = some (.int .i64 s0) := (cell_of_row _ _ 0 _ _ (0, 0) kE).trans rfl
  have c1 : W0.cell? ⟨bm, 1, none⟩ = some (.int .i64 s1) := (cell_of_row _ _ 1 _ _ (0, 0) kE).trans rfl
  have c2 : W0.cell? ⟨bm, 2, none⟩ = some (.slice A2 n2 k2) := (cell_of_row _ _ 2 _ _ (0, 0) kE).trans rfl
  have c3 : W0.cell? ⟨bm, 3, none⟩ = some (.slice A3 n3 k3) := (cell_of_row _ _ 3 _ _ (0, 0) kE).trans rfl
  have c4 : W0.cell? ⟨bm, 4, none⟩ = some (.slice A4 n4 k4) := (cell_of_row _ _ 4 _ _ (0, 0) kE).trans rfl
  cases hm : monV ((s0, s1, ls, es), vs) with
  | false =>
    have hv : Hid (enfF ((s0, s1, ls, es), vs) tr = ([], 1)) := by show _ = _; unfold enfF; rw [if_neg (by rw [hm]; decide)]
    rw [hm] at qa
    replace qa := hide qa
    clear hm kE
    go_wp2_with fail
    refine qa.out.mono ?_
    rintro e w1 ⟨rfl, hb⟩
    replace hb := hide hb
    go_wp2_with fail
    go_ret2
    exact ⟨_, by rw [hv.out]; rfl, by rw [hv.out]; exact resS_nil _ _ _, by first | exact hb0.out.trans (hb.out.mono hz') | (rw [hbm]; exact hb0.out.trans (hb.out.mono hz'))⟩
  | true =>
  rw [hm] at qa
  cases hvi : visB tr with
  | false =>
    have hv : Hid (enfF ((s0, s1, ls, es), vs) tr = ([], 2)) := by show _ = _; unfold enfF; rw [if_pos hm, if_neg (by rw [hvi]; decide)]
    rw [hvi] at qa
    replace qa := hide qa
    clear hm kE hvi
    go_wp2_with fail
    refine qa.out.mono ?_
    rintro e w1 ⟨rfl, hb⟩
    replace hb := hide hb
    go_wp2_with fail
    go_ret2
    exact ⟨_, by rw [hv.out]; rfl, by rw [hv.out]; exact resS_nil _ _ _, by first | exact hb0.out.trans (hb.out.mono hz') | (rw [hbm]; exact hb0.out.trans (hb.out.mono hz'))⟩
  | true =>
  rw [hvi] at qa
  replace qa := hide qa
  have hst := lts_states (monV_lts hm)
  dsimp only at hst
  have hval0 : enfF ((s0, s1, ls, es), vs) tr = (if verM ((s0, s1, ls, es), vs) s1 = 2 then ([], 6) else (enfG ((s0, s1, ls, es), vs) (tr.drop 0) s1, 0)) := by unfold enfF; rw [if_pos hm, if_pos hvi]; rfl
  have hlen := monV_len hm
  have l4 := t4.out.len
  dsimp only at hlen
  have hini0 := hst.2.1
  have hini1 : s1 < s0 := by have := hst.2.2; omega
  have hE := hide elem_str
  replace hm := hide hm
  clear hst hvi
  go_wp2_with fail
  refine qa.out.mono ?_
  rintro e w1 ⟨rfl, hb3⟩
  have d1 := (hb3.cell (p := ⟨bm, 1, none⟩) hz).trans c1
  have f4 := (hb3.cell (p := ⟨bm, 4, none⟩) hz).trans c4
  have hsn0 : s1.toNat < n4 := by omega
  have hsI0 : s1 < (n4 : Int) := by omega
  obtain ⟨bv, ov, v0, rfl, -, -, -, hx0, p00, -⟩ := SlI.get (t4.out.below hb3 (.inr (Nat.le_refl _))) hsn0
  have hver0 : verM ((s0, s1, ls, es), vs) s1 = v0 := by unfold verM; rw [hx0]; rfl
  rw [hver0] at hval0
  replace l4 := hide l4
  replace hlen := hide hlen
  clear c0 c1 c2 c3 c4 qa hx0 hver0
  replace hb3 := hide hb3
  by_cases hv2 : v0 = 2
  · rw [if_pos hv2] at hval0
    replace hval0 := hide hval0
    subst hv2
    clear t4 hT t2 t3
    go_wp2_with fail
    go_ret2
    exact ⟨_, by rw [hval0.out]; rfl, by rw [hval0.out]; exact resS_nil _ _ _, by first | exact hb0.out.trans (hb3.out.mono hz') | (rw [hbm]; exact hb0.out.trans (hb3.out.mono hz'))⟩
  rw [if_neg hv2] at hval0
  have hvb : (v0 == 2) = false := by rw [beq_eq_false_iff_ne]; exact hv2
  have hrel0 : Hid ([] ++ enfG ((s0, s1, ls, es), vs) (tr.drop 0) s1 = (enfF ((s0, s1, ls, es), vs) tr).1) := by show _ = _; rw [hval0]; rfl
  have hcode : Hid ((enfF ((s0, s1, ls, es), vs) tr).2 = 0) := by show _ = _; rw [hval0]
  have hmem : Hid (∀ s ∈ (enfF ((s0, s1, ls, es), vs) tr).1, s ∈ tr) := fun s hs => by rw [hval0] at hs; exact enfG_mem hs
  have hlen9 : Hid ((enfF ((s0, s1, ls, es), vs) tr).1.length ≤ tr.length) := by show _ ≤ _; rw [hval0]; exact enfG_len _ _ _
  have hO0 := hide (Own.nil_ (f := strv) (size := 1) w1 W0.heap.size 9)
  clear hval0 hv2
  go_upto_region 9 with fail
  clear d1 f4 p00 hvb
  go_loopw [7, 8, 29] (fun s v i wr => ∃ (k : Nat) (x : Int) (A : Option Addr) (m c : Nat) (acc : List ByteArray), k ≤ n ∧ 0 ≤ x ∧ x < s0 ∧ s = .int .i64 x ∧ v = .slice A m c ∧ i = .int .i64 (k : Nat) ∧ m ≤ k ∧ Hid (Own 1 strv wr W0.heap.size 9 A m c acc) ∧ Hid (acc ++ enfG ((s0, s1, ls, es), vs) (tr.drop k) x = (enfF ((s0, s1, ls, es), vs) tr).1) ∧ Below W0.heap.size W0 wr) (fun _ _ i _ => n - (intOf i).toNat)
  case atStart => exact ⟨0, s1, _, 0, 0, [], Nat.zero_le _, hini0, hini1, rfl, rfl, rfl, Nat.zero_le _, hO0, hrel0, hb3.out⟩
  case round =>
    clear hrel0 hb3 hO0
    obtain ⟨k, x, A', m, c', acc, hk, hx0, hx1, rfl, rfl, rfl, hmk, hown, hg, hb⟩ := hrel
    have k1 := (hb.block _ hz).trans kE
    by_cases hlt : k < n
    · have hltI : (k : Int) < (n : Int) := by omega
      obtain ⟨b2, off2, lab, rfl, -, -, g32, hlab, q0, -⟩ := SlS.get hT.out.sl hlt
      replace q0 := (hb.cell (p := ⟨b2, off2 + k, none⟩) g32).trans q0
      have d0 : wr.cell? ⟨bm, 0, none⟩ = some (.int .i64 s0) := (cell_of_row _ _ 0 _ _ (0, 0) k1).trans rfl
      have d1 : wr.cell? ⟨bm, 1, none⟩ = some (.int .i64 s1) := (cell_of_row _ _ 1 _ _ (0, 0) k1).trans rfl
      have d2 : wr.cell? ⟨bm, 2, none⟩ = some (.slice A2 n2 k2) := (cell_of_row _ _ 2 _ _ (0, 0) k1).trans rfl
      have d3 : wr.cell? ⟨bm, 3, none⟩ = some (.slice A3 n3 k3) := (cell_of_row _ _ 3 _ _ (0, 0) k1).trans rfl
      have hc4' : wr.cell? ⟨bm, 4, none⟩ = some (.slice (some ⟨bv, ov, none⟩) n4 k4) := (cell_of_row _ _ 4 _ _ (0, 0) k1).trans rfl
      have qd := observe_calls s0 s1 A2 n2 k2 A3 n3 k3 (some ⟨bv, ov, none⟩) n4 k4 vs x lab ls es wr lo hi (t2.out.below hb (.inr (Nat.le_refl _))) (t3.out.below hb (.inr (Nat.le_refl _))) (t4.out.below hb (.inr (Nat.le_refl _))) hes hm.out hx0 hx1
      have hr := nextM_range hm.out lab hx0 hx1
      have hs1 := @enfG_take ((s0, s1, ls, es), vs) tr k lab x hlab
      have hs2 := @enfG_skip ((s0, s1, ls, es), vs) tr k lab x hlab
      dsimp only at hr
      generalize nextM ((s0, s1, ls, es), vs) lab x = nx at *
      have hr2 := hr.2
      replace qd := hide qd
      have g32r : b2 < wr.heap.size := Nat.lt_of_lt_of_le g32 hb.size
      clear hlab hr k1
      by_cases hnx : nx < 0
      · have hv : Hid (acc ++ enfG ((s0, s1, ls, es), vs) (tr.drop (k + 1)) x = (enfF ((s0, s1, ls, es), vs) tr).1) := by show _ = _; rw [← hs2 (by omega)]; exact hg.out
        have dn : decide ((0 : Int) ≤ nx) = false := decide_eq_false (by omega)
        have dn2 : ¬ (0 : Int) ≤ nx := by omega
        clear hs1 hs2 hg hr2
        go_wp2_with fail
        refine qd.out.mono ?_
        rintro e w4 ⟨rfl, hb4⟩
        have hbd := hide (hb.trans (hb4.mono hb.size))
        have hown4 := hide (hown.out.below hb4 (Nat.le_refl _))
        clear hb4 q0 hc4' hown d0 d1 d2 d3
        go_wp2_with fail
        go_roundw
        case rel => exact ⟨k + 1, x, A', m, c', acc, by omega, hx0, hx1, rfl, rfl, by go_num, by omega, hown4, hv, hbd.out⟩
        case measure => simp [intOf]; omega
      · have hnx0 : 0 ≤ nx := by omega
        have hnn : nx.toNat < n4 := by have h1 := hlen.out; have h2 := l4.out; omega
        have hnI : nx < (n4 : Int) := by omega
        obtain ⟨b5, o5, vn, e5, -, -, g35, hx5, p5, -⟩ := SlI.get t4.out hnn
        have hver : verM ((s0, s1, ls, es), vs) nx = vn := by unfold verM; rw [hx5]; rfl
        have p5r := (hb.cell (p := ⟨b5, o5 + nx.toNat, none⟩) g35).trans p5
        have g35r : b5 < wr.heap.size := Nat.lt_of_lt_of_le g35 hb.size
        have dn : decide ((0 : Int) ≤ nx) = true := decide_eq_true (by omega)
        cases e5
        by_cases hv2 : vn = 2
        · have hv : Hid (acc ++ enfG ((s0, s1, ls, es), vs) (tr.drop (k + 1)) x = (enfF ((s0, s1, ls, es), vs) tr).1) := by show _ = _; rw [← hs2 (by rw [hver]; omega)]; exact hg.out
          subst hv2
          clear hs1 hs2 hg hr2 hx5 hver p5
          go_wp2_with fail
          refine qd.out.mono ?_
          rintro e w4 ⟨rfl, hb4⟩
          have hbd := hide (hb.trans (hb4.mono hb.size))
          have hown4 := hide (hown.out.below hb4 (Nat.le_refl _))
          have r4 := (hb4.cell (p := ⟨bm, 4, none⟩) (Nat.lt_of_lt_of_le hz hb.size)).trans hc4'
          have r5 := (hb4.cell (p := ⟨_, _, none⟩) g35r).trans p5r
          clear hb4 q0 hc4' hown p5r d0 d1 d2 d3
          go_wp2_with fail
          go_roundw
          case rel => exact ⟨k + 1, x, A', m, c', acc, by omega, hx0, hx1, rfl, rfl, by go_num, by omega, hown4, hv, hbd.out⟩
          case measure => simp [intOf]; omega
        · have hv : Hid ((acc ++ [lab]) ++ enfG ((s0, s1, ls, es), vs) (tr.drop (k + 1)) nx = (enfF ((s0, s1, ls, es), vs) tr).1) := by show _ = _; rw [List.append_assoc, List.singleton_append, ← hs1 hnx0 (by rw [hver]; exact hv2)]; exact hg.out
          have hvb : (vn == 2) = false := by rw [beq_eq_false_iff_ne]; exact hv2
          have hvb2 : (vn != 2) = true := by rw [bne_iff_ne]; exact hv2
          clear hs1 hs2 hg hx5 hver p5 hv2
          go_wp2_with fail
          refine qd.out.mono ?_
          rintro e w4 ⟨rfl, hb4⟩
          have hbd := hide (hb.trans (hb4.mono hb.size))
          have hown4 := hide (hown.out.below hb4 (Nat.le_refl _))
          have r4 := (hb4.cell (p := ⟨bm, 4, none⟩) (Nat.lt_of_lt_of_le hz hb.size)).trans hc4'
          have r5 := (hb4.cell (p := ⟨_, _, none⟩) g35r).trans p5r
          have hza : ∀ o, W0.heap.size ≤ (w4.alloc o).heap.size := fun o => by rw [World.size_alloc]; have := hbd.out.size; omega
          clear hb4 q0 hc4' hown p5r d0 d1 d2 d3
          go_wp2_with (first | (at_builtin; (with_reducible refine wpList_app rfl (.tmp 48) (.tmp 50) rfl hE.out flat_strv rfl (hown4.out.alloc _) rfl (Sl.lit1' w4 9 lab _ rfl 1 _ ?c0) ?c1 (hza _) ?_); rotate_right; intro A5 c5 w5 hown5 hgr5 hb5 _))
          case c0 => rfl
          case c1 => omega
          have hb6 := hide ((hbd.out.alloc hbd.out.size (.cells #[.string lab] 9)).trans hb5)
          clear hgr5 hb5
          go_roundw
          case rel => exact ⟨k + 1, nx, A5, m + 1, c5, acc ++ [lab], by omega, hnx0, hr2, rfl, rfl, by go_num, by omega, hown5, hv, hb6.out⟩
          case measure => simp [intOf]; omega
    · have hkn : k = n := by omega
      subst hkn
      have hge := enfG_end (d := ((s0, s1, ls, es), vs)) (tr := tr) (k := k) (s := x) (by rw [hT.out.sl.len]; exact Nat.le_refl _)
      have hfin := hg.out
      rw [hge, List.append_nil] at hfin
      have hres := hown.out.sl flat_strv
      rw [hfin] at hres
      have hR : Hid (ResS wr bm wr.heap.size (.slice A' m c') (enfF ((s0, s1, ls, es), vs) tr).1) := (resS_of (hres.more (show bm ≤ W0.heap.size by omega) (Nat.le_refl _)) (hT.out.below hb (.inr (Nat.le_refl _))) hmem.out hlen9.out)
      replace hb := hide hb
      clear hge hfin hg hown hres k1
      go_wp2_with fail
      go_ret2
      exact ⟨_, by rw [hcode.out]; rfl, by first | exact hR.out | (rw [hbm]; exact hR.out), by first | exact hb0.out.trans (hb.out.mono hz') | (rw [hbm]; exact hb0.out.trans (hb.out.mono hz'))⟩


end Go.Proofs.YtiaclddgllkgpaaGreatDoor
