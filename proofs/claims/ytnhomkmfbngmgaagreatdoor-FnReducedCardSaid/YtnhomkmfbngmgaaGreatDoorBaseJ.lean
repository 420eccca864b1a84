/-
  Lemmas that the law of this claim leans on. Conditions: sizes.
-/
import Derived.Test.YtnhomkmfbngmgaaGreatDoorBaseE
import Derived.Test.YtnhomkmfbngmgaaGreatDoorBaseF
import Derived.Test.YtnhomkmfbngmgaaGreatDoorBaseG
import Derived.Test.YtnhomkmfbngmgaaGreatDoorBaseH
import Derived.Test.YtnhomkmfbngmgaaGreatDoorBaseI
import Derived.Deep.RegionHeld3
import Derived.Lib.SliceRun
import Derived.StillTailTactics
import Derived.Deep.LoopGhost
set_option maxHeartbeats 12800000
set_option maxRecDepth 100000
set_option linter.unusedSimpArgs false
set_option linter.unusedVariables false
namespace Go.Proofs.YtnhomkmfbngmgaaGreatDoor
open Go.ChangeShapes Go.WideShapes Go.ChangeAt Go.RowKit Go.Sort
theorem grown_cell9 {w w' : World} {row : Option Nat} {q i : Nat} {v : Value} (h : w.grownBy w' row) (hq : q < w.heap.size) (hne : some q ≠ row) (hc : w.cell? ⟨q, i, none⟩ = some v) : w'.cell? ⟨q, i, none⟩ = some v :=
 (World.cell?_of_block (w := w) (by simpa using h.block q hq hne)).trans hc
theorem grown_frozen9 {w w' : World} {row : Option Nat} {q i : Nat} {b : Bool} (h : w.grownBy w' row) (hq : q < w.heap.size) (hne : some q ≠ row) (hc : w.frozen? ⟨q, i, none⟩ = b) : w'.frozen? ⟨q, i, none⟩ = b :=
 (World.frozen?_of_block (w := w) (by simpa using h.block q hq hne)).trans hc
theorem cdL_succ {es : List Ed} {k N : Nat} {p : List Int} {e : Ed} (hx : es[k]? = some e) (j : Nat) : cdL (es.take (k + 1)) N p j = cdL (es.take k) N p j ++ (if e.1 = (j : Int) then [cdE N p e] else []) := by
 unfold cdL;rw [List.take_add_one, hx, List.filter_append, List.map_append]
 congr 1
 by_cases h : e.1 = (j : Int) <;> simp [h]
theorem cdL_len (es : List Ed) (N : Nat) (p : List Int) (j : Nat) : (cdL es N p j).length ≤ es.length := by
 unfold cdL; rw [List.length_map]; exact List.length_filter_le _ _
theorem keyR_len (es : List Ed) (N : Nat) (p : List Int) (j : Nat) : (keyR es N p j).length ≤ es.length + 1 := by
 unfold keyR;rw [List.length_cons];have h1 := compact_len (sortI (cdL es N p j));rw [sortI_len] at h1;have := cdL_len es N p j;omega
theorem refine_calls (N ini : Nat) (A2 : Option Addr) (n2 k2 : Nat) (A3 : Option Addr) (n3 k3 : Nat) (A1 : Option Addr) (c1 : Nat) (es : List Ed) (p : List Int) (w : World) (lo hi lo1 hi1 : Nat)
  (t3 : SlE w lo hi A3 n3 es) (t1 : SlI w lo1 hi1 A1 N p) (hes : n3 ≤ 100000) (hN1 : 1 ≤ N) (hN : N ≤ 80) (he : EdIn N es) (hL : ∀ e, e ∈ es → e.2.1 ≤ 1000) (hp : ∀ x, x ∈ p → 0 ≤ x ∧ x < (N : Int)) :
  Calls Tryz.prog 81 #[.agg #[.int .i64 (N : Int), .int .i64 (ini : Int), .slice A2 n2 k2, .slice A3 n3 k3], .slice A1 N c1] w fun e w' => ∃ B, e = .returned (.slice (some ⟨B, 0, none⟩) N N) ∧ SlI w' w.heap.size w'.heap.size (some ⟨B, 0, none⟩) N (refF es N p) ∧ Below w.heap.size w w' := by
 have hEi := hide elem_int;have hmk := run_make_rows N (by omega);have hlp := t1.len;have hl3 := t3.len;have hb1 := (Below.refl w.heap.size w).alloc zR (.cells #[.int .i64 (N : Int), .int .i64 (ini : Int), .slice A2 n2 k2, .slice A3 n3 k3] 27);have kt := heap_alloc_new w (.cells #[.int .i64 (N : Int), .int .i64 (ini : Int), .slice A2 n2 k2, .slice A3 n3 k3] 27);have hz1 : (w.alloc (.cells #[.int .i64 (N : Int), .int .i64 (ini : Int), .slice A2 n2 k2, .slice A3 n3 k3] 27)).heap.size = w.heap.size + 1 := by simp
 obtain ⟨w1, hw1⟩ : ∃ w1, w1 = w.alloc (.cells #[.int .i64 (N : Int), .int .i64 (ini : Int), .slice A2 n2 k2, .slice A3 n3 k3] 27) := ⟨_, rfl⟩;rw [← hw1] at hb1 kt hz1;have kt1 : Hid (LtsBox w1 w.heap.size (N : Int) (ini : Int) A2 n2 k2 A3 n3 k3) := kt;have b0 := kt1.out.c0;have t3' := hide (t3.below hb1 (.inr zR));have t1' := hide (t1.below hb1 (.inr zR));obtain ⟨gp, op, rfl, -, -, hgp1, -⟩ := t1'.out.at_ hN1;obtain ⟨bk, hbk⟩ : ∃ bk, bk = w1.heap.size := ⟨_, rfl⟩;rw [← hbk] at hgp1;have hbk1 : w.heap.size < bk := by omega
 replace hz1 := hide hz1;have hM0 := BackM.made w1 N;have hbm0 := (Below.refl w1.heap.size w1).alloc zR (.cells (madeCells #[.slice none 0 0] N) 32);rw [← hbk] at hM0 hbm0;replace hM0 := hide hM0;replace hbm0 := hide hbm0;replace hb1 := hide hb1;clear kt t3 t1;go_enter Tryz.func81, Tryz.ntmps81;go_upto_region 1 with fail;rw [← hw1];replace hw1 := hide hw1;go_upto_region 2 with fail;rw [← hbk];have hbkw : w1.heap.size ≤ bk := Nat.le_of_eq hbk.symm;replace hbk := hide hbk;clear b0;go_wp2_with fail
 go_loopw [18] (fun i wr => ∃ (k : Nat) (R : List (Hd × List Int)), k ≤ N ∧ i = .int .i64 (k : Nat) ∧ Hid (BackM wr bk (bk + 1) R) ∧ Hid (RowsAre R N fun j => if j < k then [(p[j]?).getD 0] else []) ∧ Hid (Below bk w1 wr)) (fun i _ => N - (intOf i).toNat)
 case atStart => exact ⟨0, _, Nat.zero_le _, rfl, hM0.out, ⟨by simp, fun j r hr => by
  have h1 := (List.getElem?_eq_some_iff.1 hr).1;rw [List.length_replicate] at h1;rw [List.getElem?_replicate, if_pos h1] at hr
  cases hr
  exact (if_neg (Nat.not_lt_zero j)).symm⟩, hbm0.out⟩
 case round =>
  clear hM0 hbm0;obtain ⟨k, R, hk, rfl, hM, hR, hb⟩ := hrel
  by_cases hlt : k < N
  ·have k0 : (0 : Int) ≤ (k : Int) := by omega
   have k1 : (k : Int) < (N : Int) := by omega
   obtain ⟨gp2, op2, x, e9, -, -, -, hx, cx, -⟩ := SlI.get (t1'.out.below hb.out (.inr hbkw)) hlt;cases e9;obtain ⟨r, hr⟩ : ∃ r, R[k]? = some r := ⟨_, List.getElem?_eq_getElem (by rw [hR.out.1]; exact hlt)⟩;have hMa := hM.out.alloc (.cells #[.int .i64 x] 2);have hfz := (hMa.cell hr).2;have hcz := (hMa.cell hr).1;have hbkl : bk < wr.heap.size := hM.out.lt;have hnew : Own 1 iv (wr.alloc (.cells #[.int .i64 x] 2)) (bk + 1) 2 (some ⟨wr.heap.size, 0, none⟩) 1 1 [x] := Own.litL (heap_alloc_new wr _) rfl hbkl;have hM2 := hide (hM.out.push (Nat.lt_succ_self _) hbkl hr hnew (grown_alloc wr _ _) (.inr rfl));have hR2 : Hid (RowsAre (R.set k ((some ⟨wr.heap.size, 0, none⟩, 1, 1), [x])) N fun j => if j < k + 1 then [(p[j]?).getD 0] else []) := hR.out.set hlt (by show [x] = _; rw [if_pos (by omega), hx]; rfl) fun j hj _ => by
    by_cases e : j < k
    ·rw [if_pos e, if_pos (by omega)]
    ·rw [if_neg e, if_neg (by omega)]
   have hb2 := hide ((hb.out.alloc (Nat.le_of_lt (Nat.lt_of_le_of_lt (Nat.le_refl bk) hbkl)) (.cells #[.int .i64 x] 2)).setCell (p := ⟨bk, k, none⟩) zR (.slice (some ⟨wr.heap.size, 0, none⟩) 1 1));rw [World.setCell_alloc_past _ _ _ _ hbkl] at hM2 hb2;replace hx := hide hx;clear hMa hnew hR hM hr hb;go_wp2_with fail;go_roundw
   case rel => exact ⟨k + 1, _, by omega, by go_num, hM2.out, hR2.out, hb2.out⟩
   case measure => simp [intOf]; omega
  ·obtain rfl : k = N := by omega
   have k1 : ¬ (k : Int) < (k : Int) := by omega
   obtain ⟨N, rfl⟩ : ∃ N, N = k := ⟨_, rfl⟩;obtain ⟨wK, rfl⟩ : ∃ wK : World, wK = wr := ⟨_, rfl⟩;have ktK := hide (kt1.out.below hb.out hbk1);have b0 := ktK.out.c0;have b3 := ktK.out.c3;obtain ⟨bs, hbs⟩ : ∃ bs, bs = wK.heap.size := ⟨_, rfl⟩;have hbks : bk < bs := by rw [hbs]; exact hM.out.lt
   have hM0 := BackM.made wK N;have hbm0 := (Below.refl wK.heap.size wK).alloc zR (.cells (madeCells #[.slice none 0 0] N) 32);have b3' := (hbm0.cell (p := ⟨w.heap.size, 3, none⟩) (by rw [← hbs]; show w.heap.size < bs; omega)).trans b3;rw [← hbs] at hM0 hbm0;replace hM0 := hide hM0;replace hbm0 := hide hbm0;have t3K := hide (t3'.out.below hb.out (.inr hbkw));have t1K := hide (t1'.out.below hb.out (.inr hbkw));have hbsK : bs ≤ wK.heap.size := Nat.le_of_eq hbs;have hbsK2 : wK.heap.size ≤ bs := Nat.le_of_eq hbs.symm;have hRK : Hid (RowsAre R N fun j => [(p[j]?).getD 0]) := ⟨hR.out.1, fun j r hr => by
    have h1 := (List.getElem?_eq_some_iff.1 hr).1;rw [hR.out.1] at h1;exact (hR.out.2 j r hr).trans (if_pos h1)⟩
   obtain ⟨RK, rfl⟩ : ∃ RK, RK = R := ⟨_, rfl⟩;clear hR;go_upto_region 8 with fail;rw [← hbs];replace hbs := hide hbs;clear b0 b3;go_wp2_with fail;clear b3'
   go_loopw [35] (fun i wr => ∃ (k : Nat) (R : List (Hd × List Int)), k ≤ n3 ∧ i = .int .i64 (k : Nat) ∧ Hid (BackM wr bs (bs + 1) R) ∧ Hid (RowsAre R N (cdL (es.take k) N p)) ∧ Hid (Below bs wK wr)) (fun i _ => n3 - (intOf i).toNat)
   case atStart => exact ⟨0, _, Nat.zero_le _, rfl, hM0.out, ⟨by simp, fun j r hr => by
    have h1 := (List.getElem?_eq_some_iff.1 hr).1;rw [List.length_replicate] at h1;rw [List.getElem?_replicate, if_pos h1] at hr
    cases hr
    rfl⟩, hbm0.out⟩
   case round =>
    clear hM0 hbm0;obtain ⟨k, R, hk, rfl, hMS, hR, hbS⟩ := hrel
    by_cases hlt : k < n3
    ·have k0 : (0 : Int) ≤ (k : Int) := by omega
     have k1 : (k : Int) < (n3 : Int) := by omega
     obtain ⟨ge, oe, f, l, t, rfl, -, -, hge, hx, x0, x1, x2, -⟩ := SlE.get (t3K.out.below hbS.out (.inr hbsK2)) hlt;have hin := he _ (List.mem_of_getElem? hx);have hlb := hL _ (List.mem_of_getElem? hx)
     (try dsimp only at hin hlb)
     obtain ⟨f, rfl⟩ : ∃ k : Nat, f = (k : Int) := ⟨f.toNat, by omega⟩;obtain ⟨t, rfl⟩ : ∃ k : Nat, t = (k : Int) := ⟨t.toNat, by omega⟩;obtain ⟨l, rfl⟩ : ∃ k : Nat, l = (k : Int) := ⟨l.toNat, by omega⟩;have hfN : f < N := by omega
     have htN : t < N := by omega
     obtain ⟨gp2, op2, x, e9, -, -, hgp, hpx, cx, -⟩ := SlI.get (t1K.out.below hbS.out (.inr hbsK2)) htN;cases e9;have hxb := hp x (List.mem_of_getElem? hpx);obtain ⟨⟨⟨rA, rn, rc⟩, rl⟩, hr⟩ : ∃ r, R[f]? = some r := ⟨_, List.getElem?_eq_getElem (by rw [hR.out.1]; exact hfN)⟩;have hrl : rl = cdL (es.take k) N p f := hR.out.2 f _ hr;have hrn : rl.length = rn := (hMS.out.rows f _ hr).len;have hrn2 : rn ≤ n3 := by
      have h1 := cdL_len (es.take k) N p f;rw [← hrl, hrn, List.length_take] at h1;omega
     -- the box of the edge
     have kE := heap_alloc_new wr (.cells #[.int .i64 (f : Int), .int .i64 (l : Int), .int .i64 (t : Int)] 84);have hbE := (Below.refl wr.heap.size wr).alloc zR (.cells #[.int .i64 (f : Int), .int .i64 (l : Int), .int .i64 (t : Int)] 84);have hME := hMS.out.alloc (.cells #[.int .i64 (f : Int), .int .i64 (l : Int), .int .i64 (t : Int)] 84);obtain ⟨wE, hwE⟩ : ∃ wE, wE = wr.alloc (.cells #[.int .i64 (f : Int), .int .i64 (l : Int), .int .i64 (t : Int)] 84) := ⟨_, rfl⟩;rw [← hwE] at kE hbE hME;obtain ⟨be, hbe⟩ : ∃ be, be = wr.heap.size := ⟨_, rfl⟩;rw [← hbe] at kE;go_upto_region 11 with fail;rw [← hwE, ← hbe];have hber : wr.heap.size ≤ be := Nat.le_of_eq hbe.symm;have hbsr : bs < wr.heap.size := hMS.out.lt;have ktr := (ktK.out.below hbS.out (by omega)).below hbE (by omega);have hcode : cdE N p ((f : Int), (l : Int), (t : Int)) = (l : Int) * (N : Int) + x := by unfold cdE; simp only [Int.toNat_natCast]; rw [hpx]; rfl
     obtain ⟨mv, hmv⟩ : ∃ mv : Nat, mv = l * N := ⟨_, rfl⟩;have hmvb : mv ≤ 1000 * 80 := by rw [hmv]; exact Nat.mul_le_mul (by omega) hN
     have hmul : (l : Int) * (N : Int) = (mv : Int) := by rw [hmv, Int.natCast_mul]
     have hw1 : IntKind.i64.wrap ((l : Int) * (N : Int)) = (mv : Int) := by rw [hmul]; exact IntWalk.i64_in _ (by omega)
     obtain ⟨cv, hcv⟩ : ∃ cv : Int, cv = (mv : Int) + x := ⟨_, rfl⟩;have hw2 : IntKind.i64.wrap ((mv : Int) + x) = cv := by rw [hcv]; exact IntWalk.i64_in _ (by omega)
     have hcode2 : cdE N p ((f : Int), (l : Int), (t : Int)) = cv := by rw [hcode, hmul, hcv]
     obtain ⟨wD, hwD⟩ : ∃ wD, wD = wE.drew := ⟨_, rfl⟩;have hMD : BackM wD bs (bs + 1) R := by rw [hwD]; exact ⟨hME.outer, hME.rows, hME.apart⟩
     have hzD : wD.heap.size = wE.heap.size := by rw [hwD]; rfl
     have hbD : Below wr.heap.size wr wD := by rw [hwD]; exact hbE.drew
     have e0 : wD.cell? ⟨be, 0, none⟩ = some (.int .i64 (f : Int)) := by rw [hwD]; exact (cell_of_row wE be 0 _ _ (0, 0) kE).trans rfl
     have e1 : wD.cell? ⟨be, 1, none⟩ = some (.int .i64 (l : Int)) := by rw [hwD]; exact (cell_of_row wE be 1 _ _ (0, 0) kE).trans rfl
     have e2 : wD.cell? ⟨be, 2, none⟩ = some (.int .i64 (t : Int)) := by rw [hwD]; exact (cell_of_row wE be 2 _ _ (0, 0) kE).trans rfl
     have e3 : wD.cell? ⟨w.heap.size, 0, none⟩ = some (.int .i64 (N : Int)) := by rw [hwD]; exact ktr.c0
     have e4 := (hMD.cell hr).1;have e5 : wD.cell? ⟨gp, op + t, none⟩ = some (.int .i64 x) := (hbD.cell (p := ⟨gp, op + t, none⟩) hgp).trans cx;have hbel : be < wD.heap.size := by rw [hzD]; exact (Array.getElem?_eq_some_iff.1 kE).1
     have hzr : wr.heap.size ≤ wD.heap.size := hbD.size;have hbA := (Below.refl wD.heap.size wD).alloc zR (.cells #[.int .i64 cv] 2);have hMA := hMD.alloc (.cells #[.int .i64 cv] 2);have hOa := hide (hMA.rows f _ hr);have hfz := (hMA.cell hr).2;have hlit := hide (Sl.lit1' (f := iv) wD 2 cv #[.int .i64 cv] rfl 1 _ rfl);have hsz : (rn + 1) * 8 ≤ 140737488355328 := by omega
     have hza : bs + 1 ≤ (wD.alloc (.cells #[.int .i64 cv] 2)).heap.size := by rw [World.size_alloc]; omega
     have hzA : (wD.alloc (.cells #[.int .i64 cv] 2)).heap.size = wD.heap.size + 1 := World.size_alloc _ _;have a0 := (hbA.cell (p := ⟨be, 0, none⟩) hbel).trans e0;have a1 := (hbA.cell (p := ⟨be, 1, none⟩) hbel).trans e1;have a2 := (hbA.cell (p := ⟨be, 2, none⟩) hbel).trans e2;have a3 := (hbA.cell (p := ⟨w.heap.size, 0, none⟩) (by show w.heap.size < _; omega)).trans e3;have a4 := (hMA.cell hr).1;have a5 := (hbA.cell (p := ⟨gp, op + t, none⟩) (by show gp < _; omega)).trans e5;have hne : ∀ q, q < bs + 1 → some q ≠ (Value.slice rA rn rc).ownBlock := fun q hq e => by
      have := (hOa.out.lt q e.symm).1;omega
     have hneb : some be ≠ (Value.slice rA rn rc).ownBlock := fun e => by
      have := (hMS.out.rows f _ hr).lt be e.symm;omega
     have v0 := hneb;have v1 := hne w.heap.size (by omega);have v2 := hne bs (by omega);have v3 := hne gp (by omega);have m0 : be < (wD.alloc (.cells #[.int .i64 cv] 2)).heap.size := by omega
     have m1 : w.heap.size < (wD.alloc (.cells #[.int .i64 cv] 2)).heap.size := by omega
     have m2 : bs < (wD.alloc (.cells #[.int .i64 cv] 2)).heap.size := by omega
     have m3 : gp < (wD.alloc (.cells #[.int .i64 cv] 2)).heap.size := by omega
     have f0 : (0 : Int) ≤ (f : Int) := by omega
     have f1 : (f : Int) < (N : Int) := by omega
     have u0 : (0 : Int) ≤ (t : Int) := by omega
     have u1 : (t : Int) < (N : Int) := by omega
     have hpushM := hide (fun (A7 : Option Addr) (c7 : Nat) (w7 : World) (hown7 : Own 1 iv w7 (bs + 1) 2 A7 (rn + 1) c7 (rl ++ [cv])) (hgr7 : (wD.alloc (.cells #[.int .i64 cv] 2)).grownBy w7 (Value.slice rA rn rc).ownBlock) (hat7) => hMA.push (Nat.lt_succ_self _) hza hr hown7 hgr7 hat7);have hR2 : Hid (∀ (A7 : Option Addr) (c7 : Nat), RowsAre (R.set f ((A7, rn + 1, c7), rl ++ [cv])) N (cdL (es.take (k + 1)) N p)) := fun A7 c7 => hR.out.set hfN (by show rl ++ [cv] = _; rw [cdL_succ hx, if_pos rfl, hcode2, hrl]) fun j hj _ => by
      rw [cdL_succ hx, if_neg (by show ¬ (f : Int) = (j : Int); omega), List.append_nil]
     have hbelA := hide ((hbS.out.trans (hbD.mono (by omega))).alloc (by omega) (.cells #[.int .i64 cv] 2));replace hx := hide hx;replace hpx := hide hpx;replace hr := hide hr;replace hmv := hide hmv;replace hcv := hide hcv;replace hwD := hide hwD;replace hbe := hide hbe;replace hwE := hide hwE;clear x0 x1 x2 cx kE hbE hME hMD hMA hbD hbA ktr hcode hcode2 hmul hR hMS hbS hrl hneb hne;refine lateT_begin (S := fun w' => w'.cell? ⟨be, 0, none⟩ = some (.int .i64 (f : Int)) ∧ w'.cell? ⟨be, 1, none⟩ = some (.int .i64 (l : Int)) ∧ w'.cell? ⟨be, 2, none⟩ = some (.int .i64 (t : Int)) ∧ w'.cell? ⟨w.heap.size, 0, none⟩ = some (.int .i64 (N : Int)) ∧ w'.cell? ⟨bs, f, none⟩ = some (.slice rA rn rc) ∧ w'.cell? ⟨gp, op + t, none⟩ = some (.int .i64 x)) (st := 22) (by kernel_rfl) ?_;rw [← show wD = _ from hwD.out];have hS0 : (fun w' : World => w'.cell? ⟨be, 0, none⟩ = some (.int .i64 (f : Int)) ∧ w'.cell? ⟨be, 1, none⟩ = some (.int .i64 (l : Int)) ∧ w'.cell? ⟨be, 2, none⟩ = some (.int .i64 (t : Int)) ∧ w'.cell? ⟨w.heap.size, 0, none⟩ = some (.int .i64 (N : Int)) ∧ w'.cell? ⟨bs, f, none⟩ = some (.slice rA rn rc) ∧ w'.cell? ⟨gp, op + t, none⟩ = some (.int .i64 x)) wD := ⟨e0, e1, e2, e3, e4, e5⟩;refine tkB 0 [22] hS0 ?_;refine tkB 1 [22] hS0 ?_;refine tkB 2 [22] hS0 ?_;refine tkB 3 [22] hS0 ?_;refine tkB 4 [22] hS0 ?_;refine tkB 5 [22] hS0 ?_;refine tkB 6 [22] hS0 ?_;refine tkB 7 [22] hS0 ?_;refine tkB 8 [22] hS0 ?_;refine tkB 9 [22] hS0 ?_;refine tkB 10 [22] hS0 ?_;refine tkB 11 [22] hS0 ?_;refine tkB 12 [22] hS0 ?_;refine tkB 13 [22] hS0 ?_;refine tkB 14 [22] hS0 ?_;refine tkB 15 [22] hS0 ?_;refine tkB 16 [22] hS0 ?_;refine tkB 17 [22] hS0 ?_;refine tkB 18 [22] hS0 ?_;refine lS 19 fun K hK => ?_
     go_simp;refine kP hK (fun _ => ⟨a0, a1, a2, a3, a4, a5⟩) ?_
     clear hK K;refine lS 20 fun K hK => ?_
     refine step_appL (m := 1) (d := 1) (by rfl) (.tmp 46) (.tmp 58) (by rfl) hEi.out flat_iv (by go_simp) hOa.out (by go_simp) hlit.out hsz hza ?_;intro A7 c7 w7 hown7 hgr7 hb7 hat7;have d0 := grown_cell9 hgr7 m0 v0 a0;have d1 := grown_cell9 hgr7 m0 v0 a1;have d2 := grown_cell9 hgr7 m0 v0 a2;have d3 := grown_cell9 hgr7 m1 v1 a3;have d4 := grown_cell9 hgr7 m2 v2 a4;have d5 := grown_cell9 hgr7 m3 v3 a5;have df := grown_frozen9 hgr7 m2 v2 hfz;refine kP hK (fun _ => ⟨d0, d1, d2, d3, d4, d5⟩) ?_;clear hK K;refine lS 21 fun K hK => ?_
     go_simp;refine kP hK (fun _ => ⟨d0, d1, d2, d3, d4, d5⟩) ?_
     clear hK K;refine lS 22 fun K hK => ?_
     go_simp;refine kP hK nH ?_
     clear hK K;refine lateT_done (by kernel_rfl) ?_ _;have hM7 := hide (hpushM.out A7 c7 w7 hown7 hgr7 hat7);have hb7' := hide ((hbelA.out.grown hgr7 (by omega) (fun q e => by have := (hOa.out.lt q e).1; omega)).setCell (p := ⟨bs, f, none⟩) zR (.slice A7 (rn + 1) c7));have hR7 := hide (hR2.out A7 c7);clear hpushM hR2 hbelA hgr7 hb7 hat7 hown7;go_wp2_with fail;go_roundw
     case rel => exact ⟨k + 1, _, by omega, by go_num, hM7.out, hR7.out, hb7'.out⟩
     case measure => simp [intOf]; omega
    ·obtain rfl : k = n3 := by omega
     have k1 : ¬ (k : Int) < (k : Int) := by omega
     obtain ⟨n3, rfl⟩ : ∃ n3, n3 = k := ⟨_, rfl⟩;obtain ⟨wS, rfl⟩ : ∃ wS : World, wS = wr := ⟨_, rfl⟩;obtain ⟨RS, rfl⟩ : ∃ RS, RS = R := ⟨_, rfl⟩;have hRS : Hid (RowsAre RS N (cdL es N p)) := by
      have := hR.out;rw [List.take_of_length_le (by rw [hl3]; exact zR)] at this;exact this
     have hMK := hide (hM.out.below (hbS.out.mono hbsK2));have hKb : Hid (∀ (i : Nat) (r : Hd × List Int), RK[i]? = some r → ∀ g, (Value.slice r.1.1 r.1.2.1 r.1.2.2).ownBlock = some g → g < bs ∨ wS.heap.size ≤ g) := fun i r hr g hg => .inl (by have := ((hM.out.rows i r hr).lt g hg).2; omega)
     have hbw := hide (hb.out.trans (hbS.out.mono (by omega)));have hbsS : bs < wS.heap.size := hMS.out.lt;have hMS0 := hide hMS.out;clear hR hM hb k1;go_wp2_with fail
     go_loopw [64] (fun i wr => ∃ (k : Nat) (R : List (Hd × List Int)), k ≤ N ∧ i = .int .i64 (k : Nat) ∧ Hid (BackM wr bk (bk + 1) R) ∧ Hid (RowsAre R N fun j => if j < k then keyR es N p j else [(p[j]?).getD 0]) ∧ Hid (∀ (i : Nat) (r : Hd × List Int), R[i]? = some r → ∀ g, (Value.slice r.1.1 r.1.2.1 r.1.2.2).ownBlock = some g → g < bs ∨ wS.heap.size ≤ g) ∧ Hid (Below bk w1 wr) ∧ wS.heap.size ≤ wr.heap.size ∧ Hid (∀ b, bs ≤ b → b < wS.heap.size → (∀ (i : Nat) (r : Hd × List Int), i < k → RS[i]? = some r → (Value.slice r.1.1 r.1.2.1 r.1.2.2).ownBlock ≠ some b) → wr.heap[b]? = wS.heap[b]?)) (fun i _ => N - (intOf i).toNat)
     case atStart => exact ⟨0, RK, Nat.zero_le _, rfl, hMK.out, ⟨hRK.out.1, fun j r hr => (hRK.out.2 j r hr).trans (if_neg (Nat.not_lt_zero j)).symm⟩, hKb.out, hbw.out, zR, fun b _ _ _ => rfl⟩
     case round =>
      clear hMK hKb hbw;obtain ⟨k, R, hk, rfl, hM, hR, hKb, hb, hzS, hkeep⟩ := hrel
      by_cases hlt : k < N
      ·have k0 : (0 : Int) ≤ (k : Int) := by omega
       have k1 : (k : Int) < (N : Int) := by omega
       obtain ⟨⟨⟨sA, sn, sc⟩, sl⟩, hsr⟩ : ∃ r, RS[k]? = some r := ⟨_, List.getElem?_eq_getElem (by rw [hRS.out.1]; exact hlt)⟩;obtain ⟨⟨⟨kA, kn, kc⟩, kl⟩, hkr⟩ : ∃ r, R[k]? = some r := ⟨_, List.getElem?_eq_getElem (by rw [hR.out.1]; exact hlt)⟩;have hsl : sl = cdL es N p k := hRS.out.2 k _ hsr;have hkl : kl = [(p[k]?).getD 0] := (hR.out.2 k _ hkr).trans (if_neg (Nat.lt_irrefl k));have hOS := hMS0.out.rows k _ hsr;have hsn : sl.length = sn := hOS.len;have hsn2 : sn ≤ n3 := by rw [← hsn, hsl, ← hl3]; exact cdL_len _ _ _ _
       obtain rfl : kn = 1 := by have := (hM.out.rows k _ hkr).len; rw [hkl] at this; exact this.symm
       have hbsame : wr.heap[bs]? = wS.heap[bs]? := hkeep.out bs zR hbsS fun i r _ hr e => by
        have := ((hMS0.out.rows i r hr).lt bs e).1;omega
       have hcs : wr.cell? ⟨bs, k, none⟩ = some (.slice sA sn sc) := (World.cell?_of_block (w := wS) (by simpa using hbsame)).trans (hMS0.out.cell hsr).1;have hOr : Own 1 iv wr (bs + 1) 2 sA sn sc sl := hOS.keep fun g hg => hkeep.out g (by have := (hOS.lt g hg).1; omega) (hOS.lt g hg).2 fun i r hi hr e => by
        rcases hMS0.out.apart i k r _ (by omega) hr hsr with h1 | h1
        ·rw [e] at h1; cases h1
        ·exact h1 (e.trans hg.symm)
       have hown : ∀ g, (Value.slice sA sn sc).ownBlock = some g → bs + 1 ≤ g ∧ g < wS.heap.size := fun g hg => hOS.lt g hg
       have qS := hide (sortI_calls hOr (by omega));have hkeepK : Hid (∀ (W W' : World), BackM W bk (bk + 1) R → wr.heap.size ≤ W.heap.size → W.grownBy W' (Value.slice sA sn sc).ownBlock → BackM W' bk (bk + 1) R) := fun W W' hMW hzW hg => hMW.keepR (hg.block bk hMW.lt fun e => by have := (hown bk e.symm).1; omega) fun i r hr g hgg => hg.block g ((hMW.rows i r hr).lt g hgg).2 fun e => by
        have h1 := hown g e.symm
        rcases hKb.out i r hr g hgg with h2 | h2 <;> omega
       clear hOS;replace hsl := hide hsl;replace hkl := hide hkl;go_upto_region 16 with fail;clear hcs;go_wp2_with fail;refine qS.out.mono ?_;rintro e w5 ⟨rfl, hO5, hg5⟩;have hM5 := hkeepK.out wr w5 hM.out zR hg5;obtain ⟨wD, hwD⟩ : ∃ wD, wD = w5.drew := ⟨_, rfl⟩;have hMD : BackM wD bk (bk + 1) R := by rw [hwD]; exact ⟨hM5.outer, hM5.rows, hM5.apart⟩
       have hOD : Own 1 iv wD (bs + 1) 2 sA sn sc (sortI sl) := by rw [hwD]; exact hO5
       have hzD : wD.heap.size = w5.heap.size := by rw [hwD]; rfl
       have hz5 := hg5.size;have hgD : wr.grownBy wD (Value.slice sA sn sc).ownBlock := by rw [hwD]; exact ⟨hg5.os, hg5.tape, hg5.output, hg5.size, hg5.block⟩
       have c5 := (hMD.cell hkr).1;have qC := hide (compactI_calls (w := wD) hOD (by omega));have hMDk := hide (fun (w6 : World) (hg : wD.grownBy w6 (Value.slice sA sn sc).ownBlock) => hkeepK.out wD w6 hMD (by omega) hg);have hcl := compact_len (sortI sl);rw [sortI_len, hsn] at hcl;have hsz : (1 + (Lib.compact (sortI sl)).length) * 8 ≤ 140737488355328 := by omega
       have hKbk := hide (fun g (hg : (Value.slice kA 1 kc).ownBlock = some g) => hKb.out k _ hkr g hg);go_upto_region 17 with fail;replace hwD := hide hwD;replace hgD := hide hgD;clear hO5 hg5 hM5 qS hOr hOD hMD;refine lateT_begin (S := fun w' => w'.cell? ⟨bk, k, none⟩ = some (.slice kA 1 kc)) (st := 10) (by kernel_rfl) ?_;rw [← show wD = _ from hwD.out];have hS0 : (fun w' : World => w'.cell? ⟨bk, k, none⟩ = some (.slice kA 1 kc)) wD := c5;refine tkB 0 [10] hS0 ?_;refine tkB 1 [10] hS0 ?_;refine tkB 2 [10] hS0 ?_;refine tkB 3 [10] hS0 ?_;refine tkB 4 [10] hS0 ?_;refine tkB 5 [10] hS0 ?_;refine tkB 6 [10] hS0 ?_;refine lS 7 fun K hK => ?_
       go_simp;go_at_call 161
       refine qC.out.mono ?_;rintro e w6 ⟨rfl, hO6, hg6⟩;have hM6 := hMDk.out w6 hg6;have c6 := (hM6.cell hkr).1;have hfz6 := (hM6.cell hkr).2;have hOk6 := hide (hM6.rows k _ hkr);have hlit := hide (hO6.sl flat_iv);have hz6 := hg6.size;have hza : bk + 1 ≤ w6.heap.size := hM6.lt;go_wp2_with fail;refine kP hK (fun _ => c6) ?_;clear hK K;refine lS 8 fun K hK => ?_
       refine step_appL (m := (Lib.compact (sortI sl)).length) (d := sc) (by rfl) (.tmp 76) (.tmp 78) (by rfl) hEi.out flat_iv (by go_simp) hOk6.out (by go_simp) hlit.out hsz hza ?_;intro A7 c7v w7 hown7 hgr7 hb7 hat7;have hnb : some bk ≠ (Value.slice kA 1 kc).ownBlock := fun e => by
        have := (hOk6.out.lt bk e.symm).1;omega
       have c7 := grown_cell9 hgr7 (by omega) hnb c6;have df := grown_frozen9 hgr7 (by omega) hnb hfz6;refine kP hK (fun _ => c7) ?_;clear hK K;refine lS 9 fun K hK => ?_
       go_simp;refine kP hK (fun _ => c7) ?_
       clear hK K;refine lS 10 fun K hK => ?_
       go_simp;refine kP hK nH ?_
       clear hK K;refine lateT_done (by kernel_rfl) ?_ _;have hM8 := hide (hM6.push (Nat.lt_succ_self _) hza hkr hown7 hgr7 hat7);have hval : kl ++ Lib.compact (sortI sl) = keyR es N p k := by rw [hkl.out, hsl.out]; rfl
       have hR8 : Hid (RowsAre (R.set k ((A7, 1 + (Lib.compact (sortI sl)).length, c7v), kl ++ Lib.compact (sortI sl))) N fun j => if j < k + 1 then keyR es N p j else [(p[j]?).getD 0]) := hR.out.set hlt (by show kl ++ _ = _; rw [if_pos (by omega)]; exact hval) fun j hj _ => by
        by_cases e : j < k
        ·rw [if_pos e, if_pos (by omega)]
        ·rw [if_neg e, if_neg (by omega)]
       have hKb8 : Hid (∀ (i : Nat) (r : Hd × List Int), (R.set k ((A7, 1 + (Lib.compact (sortI sl)).length, c7v), kl ++ Lib.compact (sortI sl)))[i]? = some r → ∀ g, (Value.slice r.1.1 r.1.2.1 r.1.2.2).ownBlock = some g → g < bs ∨ wS.heap.size ≤ g) := fun i r hr g hg => by
        by_cases e : k = i
        ·subst e
         rw [List.getElem?_set_self (by rw [hR.out.1]; exact hlt)] at hr
         cases hr
         (try dsimp only at hg)
         rcases hat7 with h1 | h1
         ·exact hKbk.out g (h1.symm.trans hg)
         ·rw [h1] at hg
          injection hg with hg
          right; omega
        ·rw [List.getElem?_set_ne e] at hr
         exact hKb.out i r hr g hg
       have hb8 := hide (((((hb.out.grown hgD.out (by omega) (fun q e => by have := (hown q e).1; omega)).grown hg6 (by omega) (fun q e => by have := (hown q e).1; omega)).grown hgr7 (by omega) (fun q e => by have := (hOk6.out.lt q e).1; omega)).setCell (p := ⟨bk, k, none⟩) zR (.slice A7 (1 + (Lib.compact (sortI sl)).length) c7v)));have hz7 := hgr7.size;have hzS8 : wS.heap.size ≤ (w7.setCell ⟨bk, k, none⟩ (.slice A7 (1 + (Lib.compact (sortI sl)).length) c7v)).heap.size := by rw [World.size_setCell]; omega
       have hkeep8 : Hid (∀ b, bs ≤ b → b < wS.heap.size → (∀ (i : Nat) (r : Hd × List Int), i < k + 1 → RS[i]? = some r → (Value.slice r.1.1 r.1.2.1 r.1.2.2).ownBlock ≠ some b) → (w7.setCell ⟨bk, k, none⟩ (.slice A7 (1 + (Lib.compact (sortI sl)).length) c7v)).heap[b]? = wS.heap[b]?) := fun b h1 h2 h3 => by
        have hnk := h3 k _ (by omega) hsr;rw [Below.heap_setCell _ _ _ _ (show b ≠ bk by omega), hgr7.block b (by omega) (fun e => by
         rcases hKbk.out b e.symm with h4 | h4 <;> omega), hg6.block b (by omega) (fun e => hnk e.symm), hgD.out.block b (by omega) (fun e => hnk e.symm)]
        exact hkeep.out b h1 h2 fun i r hi hr => h3 i r (by omega) hr
       replace hM6 := hide hM6;replace hO6 := hide hO6;replace hg6 := hide hg6;clear hown7 hgr7 hb7 hat7 hR hM hb hkeep hKb hKbk hkeepK;replace hval := hide hval;replace hkr := hide hkr;replace hsr := hide hsr;go_wp2_with fail;go_roundw
       case rel => exact ⟨k + 1, _, by omega, by go_num, hM8.out, hR8.out, hKb8.out, hb8.out, hzS8, hkeep8.out⟩
       case measure => simp [intOf]; omega
      ·obtain rfl : k = N := by omega
       have k1 : ¬ (k : Int) < (k : Int) := by omega
       have hmap : R.map (·.2) = keysR es k p := by
        rw [hR.out.map];unfold keysR;exact List.map_congr_left fun j hj => by rw [if_pos (List.mem_range.1 hj)]
       have hrows := hM.out.rowsI fun i r hr => by
        have h1 : r.2 = keyR es k p i := (hR.out.2 i r hr).trans (if_pos (by have := (List.getElem?_eq_some_iff.1 hr).1; rw [hR.out.1] at this; exact this));rw [h1];have := keyR_len es k p i;omega
       rw [hR.out.1] at hrows;have qN := normalKeys_calls (some ⟨bk, 0, none⟩) k k R wr _ _ hrows (by omega) zR;rw [hmap] at qN;replace qN := hide qN;have hbF := hide (hb1.out.trans (hb.out.mono (by omega)));have hzF := hbF.out.size;clear hrows hmap hM hR hKb hb hkeep hMS hMS0 hRS;go_wp2_with fail;refine qN.out.mono ?_;rintro e w9 ⟨B, rfl, hB, hb9⟩;have hB9 := hide (hB.more hzF zR);replace hb9 := hide (hbF.out.trans (hb9.mono hzF));clear qN;go_wp2_with fail;go_ret;exact ⟨B, rfl, hB9.out, hb9.out⟩
end Go.Proofs.YtnhomkmfbngmgaaGreatDoor
namespace Go.Proofs.YtnhomkmfbngmgaaGreatDoor
open Go.ChangeShapes Go.WideShapes Go.ChangeAt Go.RowKit
theorem made_zeroP (w : World) (n : Nat) : SlI (w.alloc (.cells (madeCells #[.int .i64 0] n) 2)) w.heap.size (w.heap.size + 1) (some ⟨w.heap.size, 0, none⟩) n (zeroP n) := by
 refine ⟨by simp [zeroP], fun hn => ⟨w.heap.size, 0, rfl, zR, Nat.lt_succ_self _, by simp, fun k x hx j u hu => ?_⟩⟩;have hk : k < n := by have := (List.getElem?_eq_some_iff.1 hx).1; simpa [zeroP] using this
 have hx0 : x = 0 := by
  unfold zeroP at hx;rw [List.getElem?_replicate, if_pos hk] at hx;exact (Option.some.inj hx).symm
 subst hx0;have hj : j = 0 := by
  have := (List.getElem?_eq_some_iff.1 hu).1
  simp [iv] at this
  exact this
 subst hj
 simp [iv] at hu
 subst hu;have hg := heap_alloc_new w (.cells (madeCells #[.int .i64 0] n) 2);refine ⟨(cell_of_row _ _ _ _ _ (0, 0) hg).trans ?_, frozen_of_row _ _ _ _ _ hg⟩
 simp [madeCells, Value.cells, hk, Nat.mod_one]
theorem single_calls (N : Nat) (hN : N ≤ 1048576) (w : World) :
  Calls Tryz.prog 230 #[.int .i64 (N : Int)] w fun e w' => e = .returned (.slice (some ⟨w.heap.size, 0, none⟩) N N) ∧ SlI w' w.heap.size w'.heap.size (some ⟨w.heap.size, 0, none⟩) N (zeroP N) ∧ Below w.heap.size w w' := by
 have hmk := run_make_int N hN;go_enter Tryz.func230, Tryz.ntmps230;go_wp2_with fail;go_ret;exact ⟨rfl, (made_zeroP w N).more zR (by rw [World.size_alloc]; exact zR), bR.alloc zR _⟩
def NextOk (es : List Ed) (N : Nat) (F : FuncId) (pre : Array Value) (w : World) : Prop :=
 ∀ (k : Nat) (A : Option Addr) (c : Nat) (W : World) (lo hi : Nat), Below w.heap.size w W → SlI W lo hi A N (rndP es N k) →
  Calls Tryz.prog F (pre.push (.slice A N c)) W fun e W' => ∃ B c', e = .returned (.slice B N c') ∧ SlI W' W.heap.size W'.heap.size B N (rndP es N (k + 1)) ∧ Below W.heap.size W W' ∧ N ≤ c'
structure RouW (w wr : World) (es : List Ed) (N : Nat) (j : Nat) (A : Option Addr) (c : Nat) (R : List (HI × List Int)) : Prop where
 grow : GrowI wr w.heap.size N A (j + 1) c R
 vals : R.map (·.2) = (List.range (j + 1)).map (rndP es N)
 new : ∀ m, m < j → rndP es N (m + 1) ≠ rndP es N m
 below : Below w.heap.size w wr
 caps : ∀ r, r ∈ R → N ≤ r.1.2
def lenV9 (v : Value) : Nat := match v with | .slice _ n _ => n | _ => 0
theorem rounds_calls (es : List Ed) (N : Nat) (hN1 : 1 ≤ N) (hN : N ≤ 80) (he : EdIn N es) (F : FuncId) (pre : Array Value) (w : World) (hnext : NextOk es N F pre w)
  (hF : ∀ (v : Value) (W : World), Sem.run Tryz.prog (callFunc F (pre.push v)) W = .ok (.enter F (pre.push v)) W) :
  Calls Tryz.prog 139 #[.int .i64 (N : Int), .func (.func F) pre #[]] w fun e w' => ∃ r A c R, e = .returned (.slice A (r + 1) c) ∧ LastR es N r ∧ RouW w w' es N r A c R := by
 have hER := hide elem_rowI;have hS := hide (single_calls N (by omega) w);replace hnext := hide hnext;replace he := hide he;go_enter Tryz.func139, Tryz.ntmps139;go_wp2_with fail;refine hS.out.mono ?_;rintro e w3 ⟨rfl, hs3, hb3⟩;have hz3 := hb3.size;have hbl : Below w3.heap.size w3 (w3.alloc (.cells #[.slice (some ⟨w.heap.size, 0, none⟩) N N] 32)) := bR.alloc zR _;have hstart : Hid (RouW w (w3.alloc (.cells #[.slice (some ⟨w.heap.size, 0, none⟩) N N] 32)) es N 0 (some ⟨w3.heap.size, 0, none⟩) 1 [((some ⟨w.heap.size, 0, none⟩, N), zeroP N)]) :=
  ⟨GrowI.one hs3 hz3, rfl, fun i hi => absurd hi (by omega), hb3.trans (hbl.mono hz3), fun r hr => by obtain rfl := List.mem_singleton.1 hr; exact zR⟩
 clear hS hs3 hbl;go_wp2_with fail
 go_loopw [5] (fun o wr => ∃ (j : Nat) (A : Option Addr) (c : Nat) (R : List (HI × List Int)), j + 1 ≤ N ∧ o = .slice A (j + 1) c ∧ Hid (RouW w wr es N j A c R)) (fun o _ => N + 2 - lenV9 o)
 case atStart => exact ⟨0, _, _, _, hN1, rfl, hstart⟩
 case round =>
  clear hstart;obtain ⟨j, A, c, R, hj, rfl, hR⟩ := hrel;obtain ⟨bo, oo, Ah, ch, s, rfl, go1, go2, hrj, co, hsj, hoff⟩ := hR.out.grow.get (show j < j + 1 by omega);have hs : s = rndP es N j := by
   have h1 : (R.map (·.2))[j]? = some s := by rw [List.getElem?_map, hrj]; rfl
   rw [hR.out.vals, List.getElem?_map, List.getElem?_range (by omega)] at h1;exact (Option.some.inj h1).symm
  subst hs;have hwr := hR.out.below;have qY := hide (hnext.out j Ah ch wr _ _ hwr hsj);have hzr := hwr.size;have hi1 : IntKind.i64.wrap (((j + 1 : Nat) : Int) - 1) = (j : Int) := by rw [IntWalk.i64_in _ (by omega)]; omega
  have hi2 : ((j + 1 : Nat) : Int) - 1 = (j : Int) := by omega
  have hj0 : (0 : Int) ≤ (j : Int) := by omega
  have hj1 : (j : Int) < ((j + 1 : Nat) : Int) := by omega
  replace hsj := hide hsj;clear hoff hwr;go_upto_region 3 with fail;go_wp2_with fail;refine qY.out.mono ?_;rintro e w4 ⟨A4, c4, rfl, hs4, hb4, hc4⟩;have hG4 := hide (hR.out.grow.below hb4);have hz4 := hb4.size;have hsj4 := hide (hsj.out.below hb4 (.inr zR));have qE := equalI_calls Ah A4 N N ch c4 _ _ w4 _ _ _ _ hsj4.out hs4 (by omega) (by omega);replace hs4 := hide hs4;replace hb4 := hide hb4;clear co qY hi1 hi2 hj0 hj1
  by_cases heq : rndP es N j = rndP es N (j + 1)
  ·rw [decide_eq_true heq] at qE
   replace qE := hide qE;replace heq := hide heq;go_wp2_with fail;refine qE.out.mono ?_;rintro e w5 ⟨rfl, hb5⟩;go_wp2_with fail;go_ret;exact ⟨j, _, _, R, rfl, ⟨heq.out.symm, hR.out.new⟩, ⟨hG4.out.below hb5, hR.out.vals, hR.out.new, hR.out.below.trans ((hb4.out.trans (hb5.mono hz4)).mono hzr), hR.out.caps⟩⟩
  ·rw [decide_eq_false heq] at qE
   replace qE := hide qE;have hnew : Hid (∀ m, m < j + 1 → rndP es N (m + 1) ≠ rndP es N m) := fun m hm => by
    by_cases e : m < j
    ·exact hR.out.new m e
    ·obtain rfl : m = j := by omega
     exact fun h => heq h.symm
   have hjN : j + 1 + 1 ≤ N := rnd_bound he.out hN1 hnew.out;clear heq;go_wp2_with fail;refine qE.out.mono ?_;rintro e w5 ⟨rfl, hb5⟩;have hG5 := hide (hG4.out.below hb5);have hz5 := hb5.size;have hza : w.heap.size ≤ (w5.alloc (.cells #[.slice A4 N c4] 32)).heap.size := by rw [World.size_alloc]; omega
   have hOa := hide (hG5.out.own.alloc (.cells #[.slice A4 N c4] 32));replace hb5 := hide hb5;clear qE;go_wp2_with (first | (at_builtin; (with_reducible refine wpList_app rfl (.tmp 24) (.tmp 26) rfl hER.out (flat_hiV N) rfl hOa.out rfl (Sl.lit1' w5 32 ((A4, c4) : HI) _ rfl 1 _ ?c0) ?c1 hza ?_); rotate_right; intro A6 c6 w6 hown6 hgr6 hb6 hat6))
   case c0 => rfl
   case c1 => omega
   have hbA : Below w5.heap.size w5 (w5.alloc (.cells #[.slice A4 N c4] 32)) := bR.alloc zR _;have hb45 : Below w4.heap.size w4 (w5.alloc (.cells #[.slice A4 N c4] 32)) := hb5.out.trans (hbA.mono hz5);have hG6 := (hG5.out.below hbA).push ((hs4.out.below hb45 (.inr zR)).more hzr hb45.size) (fun b' off' hN0 e e2 => by
    obtain ⟨b2, o2, e3, g1, -⟩ := hs4.out.at_ hN0;rw [e] at e3;cases e3;have := (hR.out.grow.own.lt _ e2).2
    omega) hown6 hgr6 hat6
   have hBel : Below w.heap.size w w6 := hR.out.below.trans ((hb4.out.mono hzr).trans ((hb45.mono (by omega)).trans hb6));have hR6 : Hid (RouW w w6 es N (j + 1) A6 c6 (R ++ [((A4, c4), rndP es N (j + 1))])) :=
    ⟨hG6, by rw [List.map_append, hR.out.vals, List.range_succ (n := j + 1), List.map_append]; rfl, hnew.out, hBel, fun r hr => by
     rcases List.mem_append.1 hr with hr | hr
     ·exact hR.out.caps r hr
     ·obtain rfl := List.mem_singleton.1 hr; exact hc4⟩
   go_wp2_with fail;go_roundw
   case rel => exact ⟨j + 1, A6, c6, _, hjN, rfl, hR6⟩
   case measure => simp [lenV9]; omega
theorem lastR_calls (A : Option Addr) (base N n c : Nat) (R : List (HI × List Int)) (w : World) (h : GrowI w base N A (n + 1) c R) (hn : n ≤ 1048576) {Ah : Option Addr} {ch : Nat} {s : List Int} (hr : R[n]? = some ((Ah, ch), s)) :
  Calls Tryz.prog 138 #[.slice A (n + 1) c] w fun e w' => e = .returned (.slice Ah N ch) ∧ w = w' := by
 obtain ⟨bo, oo, Ah', ch', s', rfl, -, -, hrj, co, -, -⟩ := h.get (show n < n + 1 by omega);rw [hr] at hrj
 cases hrj
 have hi1 : IntKind.i64.wrap (((n + 1 : Nat) : Int) - 1) = (n : Int) := by rw [IntWalk.i64_in _ (by omega)]; omega
 have hi2 : ((n + 1 : Nat) : Int) - 1 = (n : Int) := by omega
 have hj0 : (0 : Int) ≤ (n : Int) := by omega
 have hj1 : (n : Int) < ((n + 1 : Nat) : Int) := by omega
 clear h hr;go_enter Tryz.func138, Tryz.ntmps138;go_wp2_with fail;go_ret;exact ⟨rfl, rfl⟩
section
variable {w : World} {N ini : Nat} {A : Option Addr} {n : Nat} {B : Option Addr} {m : Nat} {ls : List ByteArray} {es : List Ed}
theorem SysA.fewL (h : SysA w N ini A n B m ls es) : ∀ e, e ∈ es → e.2.1 ≤ 1000 := fun e he => by
 have h1 := h.labs e he;have h2 := h.many;omega
theorem SysA.next (h : SysA w N ini A n B m ls es) (c d : Nat) : NextOk es N 81 #[.agg #[.int .i64 (N : Int), .int .i64 (ini : Int), .slice A n c, .slice B m d]] w := by
 intro k P cP W lo hi hW hP;have hm := h.many;have hb := h.bounds;have hS := h.below hW zR;have q := refine_calls N ini A n c B m d P cP es (rndP es N k) W _ _ lo hi hS.se hP (by omega) hb.1.1 (Nat.le_trans hb.1.2 (by decide)) h.edges h.fewL (rnd_part k).range;refine q.mono ?_;rintro e W' ⟨Bq, rfl, h1, h2⟩;exact ⟨_, _, rfl, h1, h2, zR⟩
theorem SysA.rounds (h : SysA w N ini A n B m ls es) (c d : Nat) :
  Calls Tryz.prog 139 #[.int .i64 (N : Int), .func (.func 81) #[.agg #[.int .i64 (N : Int), .int .i64 (ini : Int), .slice A n c, .slice B m d]] #[]] w fun e w' => ∃ r A c R, e = .returned (.slice A (r + 1) c) ∧ LastR es N r ∧ RouW w w' es N r A c R :=
 rounds_calls es N h.bounds.1.1 (Nat.le_trans h.bounds.1.2 (by decide)) h.edges _ _ w (h.next c d) (fun v W => by kernel_rfl)
end
open Go.Lib Go.Sort
structure SysE (w : World) (N : Nat) (B : Option Addr) (m : Nat) (es : List Ed) : Prop where
 se : SlE w 0 w.heap.size B m es
 sz : m ≤ 100000
 one : 1 ≤ N
 few : N ≤ 80
 ins : EdIn N es
 labs : ∀ e, e ∈ es → e.2.1 ≤ 1000
section
variable {w w' : World} {N ini : Nat} {A : Option Addr} {n : Nat} {B : Option Addr} {m : Nat} {es : List Ed}
theorem SysE.below {K : Nat} (h : SysE w N B m es) (hb : Below K w w') (hK : w.heap.size ≤ K) : SysE w' N B m es :=
 ⟨(h.se.below hb (.inr hK)).here', h.sz, h.one, h.few, h.ins, h.labs⟩
theorem SysE.next (h : SysE w N B m es) (c d : Nat) : NextOk es N 81 #[.agg #[.int .i64 (N : Int), .int .i64 (ini : Int), .slice A n c, .slice B m d]] w := by
 intro k P cP W lo hi hW hP;have hS := h.below hW zR;have q := refine_calls N ini A n c B m d P cP es (rndP es N k) W _ _ lo hi hS.se hP h.sz h.one h.few h.ins h.labs (rnd_part k).range;refine q.mono ?_;rintro e W' ⟨Bq, rfl, h1, h2⟩;exact ⟨_, _, rfl, h1, h2, zR⟩
theorem SysE.rounds (h : SysE w N B m es) (c d : Nat) :
  Calls Tryz.prog 139 #[.int .i64 (N : Int), .func (.func 81) #[.agg #[.int .i64 (N : Int), .int .i64 (ini : Int), .slice A n c, .slice B m d]] #[]] w fun e w' => ∃ r A c R, e = .returned (.slice A (r + 1) c) ∧ LastR es N r ∧ RouW w w' es N r A c R :=
 rounds_calls es N h.one h.few h.ins _ _ w (h.next c d) (fun v W => by kernel_rfl)
end
theorem ltsEs_mem {ls : List ByteArray} {rs : List Arc} {e : Ed} : e ∈ ltsEs ls rs ↔ ∃ a, a ∈ rs ∧ e = arcD (joiF ls) a := by
 unfold ltsEs;rw [compactE_mem];unfold sortE;rw [List.mem_mergeSort, List.mem_map];exact ⟨fun ⟨a, h, e⟩ => ⟨a, h, e.symm⟩, fun ⟨a, h, e⟩ => ⟨a, h, e.symm⟩⟩
theorem ltsEs_len (ls : List ByteArray) (rs : List Arc) : (ltsEs ls rs).length ≤ rs.length := by
 unfold ltsEs;refine Nat.le_trans (compactE_len _) ?_;unfold sortE;rw [List.length_mergeSort, List.length_map];exact zR
theorem joiF_len (ls : List ByteArray) : (joiF ls).length ≤ ls.length + 1 := by
 unfold joiF;rw [List.length_map];refine Nat.le_trans (Go.Lib.compact_length_le _) ?_;rw [List.length_mergeSort, List.length_map, List.length_cons];exact zR
def uniA (la : List ByteArray) (ea : List Ed) (lb : List ByteArray) (eb : List Ed) (Na : Nat) : List Arc := ea.map (arcOf la) ++ (eb.map (arcOf lb)).map (shiftA Na)
def uniE (la : List ByteArray) (ea : List Ed) (lb : List ByteArray) (eb : List Ed) (Na : Nat) : List Ed := ltsEs (la ++ lb) (uniA la ea lb eb Na)
theorem arcOf_mem {la : List ByteArray} {e : Ed} (h : 0 ≤ e.2.1 ∧ e.2.1 < (la.length : Int)) : (arcOf la e).2.1 ∈ la := by
 unfold arcOf;dsimp only;rw [List.getElem?_eq_getElem (show e.2.1.toNat < la.length by omega), Option.getD_some];exact List.getElem_mem _
theorem uni_in {la : List ByteArray} {ea : List Ed} {lb : List ByteArray} {eb : List Ed} {Na Nb : Nat} (hla : la.length ≤ 100) (hlb : lb.length ≤ 100)
  (ha : ∀ e, e ∈ ea → (0 ≤ e.1 ∧ e.1 < (Na : Int)) ∧ (0 ≤ e.2.1 ∧ e.2.1 < (la.length : Int)) ∧ (0 ≤ e.2.2 ∧ e.2.2 < (Na : Int)))
  (hb : ∀ e, e ∈ eb → (0 ≤ e.1 ∧ e.1 < (Nb : Int)) ∧ (0 ≤ e.2.1 ∧ e.2.1 < (lb.length : Int)) ∧ (0 ≤ e.2.2 ∧ e.2.2 < (Nb : Int))) :
  EdIn (Na + Nb) (uniE la ea lb eb Na) ∧ ∀ e, e ∈ uniE la ea lb eb Na → e.2.1 ≤ 1000 := by
 have key : ∀ e, e ∈ uniE la ea lb eb Na → (0 ≤ e.1 ∧ e.1 < ((Na + Nb : Nat) : Int)) ∧ (0 ≤ e.2.1 ∧ e.2.1 ≤ 1000) ∧ (0 ≤ e.2.2 ∧ e.2.2 < ((Na + Nb : Nat) : Int)) := by
  intro e he;obtain ⟨a, hm, rfl⟩ := ltsEs_mem.1 he;have hjl := joiF_len (la ++ lb);rw [List.length_append] at hjl;have lab : ∀ s, s ∈ la ++ lb → 0 ≤ idxZ (joiF (la ++ lb)) s ∧ idxZ (joiF (la ++ lb)) s ≤ 1000 := fun s hs => by
   obtain ⟨k, h1, h2⟩ := idxZ_get ((joi_mem_iff (la ++ lb) s).2 (.inr hs));have := (List.getElem?_eq_some_iff.1 h2).1;omega
  unfold uniA at hm
  rcases List.mem_append.1 hm with h | h
  ·obtain ⟨x, hx, rfl⟩ := List.mem_map.1 h
   have h1 := ha x hx;have h2 := lab _ (List.mem_append_left lb (arcOf_mem h1.2.1));simp only [arcD];refine ⟨?_, h2, ?_⟩
   ·show 0 ≤ x.1 ∧ x.1 < _; omega
   ·show 0 ≤ x.2.2 ∧ x.2.2 < _; omega
  ·obtain ⟨y, hy, rfl⟩ := List.mem_map.1 h
   obtain ⟨x, hx, rfl⟩ := List.mem_map.1 hy;have h1 := hb x hx;have h2 := lab _ (List.mem_append_right la (arcOf_mem h1.2.1));simp only [arcD, shiftA];refine ⟨?_, h2, ?_⟩
   ·show 0 ≤ x.1 + _ ∧ x.1 + _ < _; omega
   ·show 0 ≤ x.2.2 + _ ∧ x.2.2 + _ < _; omega
 exact ⟨fun e he => ⟨(key e he).1, (key e he).2.1.1, (key e he).2.2⟩, fun e he => (key e he).2.1.2⟩
end Go.Proofs.YtnhomkmfbngmgaaGreatDoor
namespace Go.Proofs.YtnhomkmfbngmgaaGreatDoor
def PartE (S : List Int) (es es2 : List Ed) : Prop := ∀ f l t, (f, l, t) ∈ es2 ↔ ∃ (i j : Nat) (a b : Int), f = (i : Int) ∧ t = (j : Int) ∧ S[i]? = some a ∧ S[j]? = some b ∧ (a, l, b) ∈ es
section
variable {es es2 : List Ed} {N r : Nat} {p : List Int}
end
theorem part_mem {N : Nat} {p : List Int} (h : PartN N p) {c : Nat} (hc : c < numB p) : (c : Int) ∈ p := by
 have h1 := firsts_of_norm h.norm;have : (c : Int) ∈ firsts [] p := by
  rw [h1];unfold selfL;exact List.mem_map.2 ⟨c, List.mem_range.2 hc, rfl⟩
 exact (firsts_mem.1 this).resolve_left List.not_mem_nil
theorem part_lt {N : Nat} {p : List Int} (h : PartN N p) {x : Int} (hx : x ∈ p) : 0 ≤ x ∧ x < (numB p : Int) := by
 have h1 := firsts_of_norm h.norm;have : x ∈ firsts [] p := firsts_mem.2 (.inr hx);rw [h1] at this;obtain ⟨c, hc, rfl⟩ := List.mem_map.1 this;have := List.mem_range.1 hc;exact ⟨by show (0 : Int) ≤ (c : Int); omega, by show (c : Int) < _; omega⟩
open Go.ChangeAt Go.ChangeShapes Go.Lib Go.RowKit Go.Sort Go.WideShapes
theorem arc_step {J ls : List ByteArray} {es : List Ed} (hJ : ∀ s, s ∈ ls → s ∈ J) (hl : ∀ e, e ∈ es → 0 ≤ e.2.1 ∧ e.2.1 < (ls.length : Int)) {f t : Int} {s : ByteArray} :
  (∃ l : Nat, (∃ a, a ∈ es.map (arcOf ls) ∧ (f, (l : Int), t) = arcD J a) ∧ J[l]? = some s) ↔ ∃ l : Nat, (f, (l : Int), t) ∈ es ∧ ls[l]? = some s := by
 constructor
 ·rintro ⟨l, ⟨a, ha, e⟩, hs⟩
  obtain ⟨x, hx, rfl⟩ := List.mem_map.1 ha;have hlx := hl x hx;unfold arcD at e;injection e with e1 e2;injection e2 with e2 e3;obtain ⟨k, h1, h2⟩ := idxZ_get (hJ _ (arcOf_mem (la := ls) (e := x) hlx));have : k = l := by omega
  subst this;rw [hs] at h2;have h3 := Option.some.inj h2;unfold arcOf at h3 e1 e3;simp only at h3 e1 e3;rw [List.getElem?_eq_getElem (show x.2.1.toNat < ls.length by omega), Option.getD_some] at h3;refine ⟨x.2.1.toNat, ?_, by rw [h3]; exact List.getElem?_eq_getElem _⟩;rw [show ((x.2.1.toNat : Nat) : Int) = x.2.1 by omega, e1, e3];exact hx
 ·rintro ⟨l, hx, hs⟩
  have hms := List.mem_of_getElem? hs;obtain ⟨k, h1, h2⟩ := idxZ_get (hJ s hms);refine ⟨k, ⟨arcOf ls (f, (l : Int), t), List.mem_map.2 ⟨_, hx, rfl⟩, ?_⟩, h2⟩;rw [arcOf_at hs];unfold arcD;simp only;rw [h1]
theorem uni_tE {la : List ByteArray} {ea : List Ed} {lb : List ByteArray} {eb : List Ed} {Na : Nat}
  (ha : ∀ e, e ∈ ea → (0 ≤ e.1 ∧ e.1 < (Na : Int)) ∧ (0 ≤ e.2.1 ∧ e.2.1 < (la.length : Int)) ∧ (0 ≤ e.2.2 ∧ e.2.2 < (Na : Int)))
  (hb : ∀ e, e ∈ eb → 0 ≤ e.1 ∧ (0 ≤ e.2.1 ∧ e.2.1 < (lb.length : Int)) ∧ 0 ≤ e.2.2) {x y : Nat} {s : ByteArray} :
  tE (joiF (la ++ lb)) (uniE la ea lb eb Na) x s y ↔ sumE Na (tE la ea) (tE lb eb) x s y := by
 have hJa : ∀ s, s ∈ la → s ∈ joiF (la ++ lb) := fun s hs => (joi_mem_iff _ _).2 (.inr (List.mem_append_left _ hs))
 have hJb : ∀ s, s ∈ lb → s ∈ joiF (la ++ lb) := fun s hs => (joi_mem_iff _ _).2 (.inr (List.mem_append_right _ hs))
 have ka := fun (f t : Int) (s : ByteArray) => arc_step (es := ea) (f := f) (t := t) (s := s) hJa fun e he => (ha e he).2.1
 have kb := fun (f t : Int) (s : ByteArray) => arc_step (es := eb) (f := f) (t := t) (s := s) hJb fun e he => (hb e he).2.1
 unfold tE sumE nE
 constructor
 ·rintro ⟨l, he, hs⟩
  unfold uniE at he;obtain ⟨a, hm, e⟩ := ltsEs_mem.1 he;unfold uniA at hm
  rcases List.mem_append.1 hm with h | h
  ·obtain ⟨l', h1, h2⟩ := (ka (x : Int) (y : Int) s).1 ⟨l, ⟨a, h, e⟩, hs⟩
   have := ha _ h1;dsimp only at this;exact .inl ⟨by omega, by omega, l', h1, h2⟩
  ·obtain ⟨b, hb', rfl⟩ := List.mem_map.1 h
   have hbx := hb';obtain ⟨z, hz, hzb⟩ := List.mem_map.1 hb';have hz2 := hb z hz;have e0 := e;unfold arcD shiftA at e;injection e with e1 e2;injection e2 with e2 e3;simp only at e1 e2 e3;have b1 : b.1 = z.1 := by rw [← hzb]; rfl
   have b2 : b.2.2 = z.2.2 := by rw [← hzb]; rfl
   obtain ⟨l', h1, h2⟩ := (kb b.1 b.2.2 s).1 ⟨l, ⟨b, hbx, by unfold arcD; rw [e2]⟩, hs⟩;refine .inr ⟨b.1.toNat, b.2.2.toNat, by omega, by omega, l', ?_, h2⟩;rw [show ((b.1.toNat : Nat) : Int) = b.1 by omega, show ((b.2.2.toNat : Nat) : Int) = b.2.2 by omega];exact h1
 ·rintro (⟨-, -, l, h1, h2⟩ | ⟨x', y', rfl, rfl, l, h1, h2⟩)
  ·obtain ⟨k, ⟨a, hm, e⟩, hs⟩ := (ka (x : Int) (y : Int) s).2 ⟨l, h1, h2⟩
   exact ⟨k, ltsEs_mem.2 ⟨a, List.mem_append_left _ hm, e⟩, hs⟩
  ·obtain ⟨k, ⟨a, hm, e⟩, hs⟩ := (kb (x' : Int) (y' : Int) s).2 ⟨l, h1, h2⟩
   refine ⟨k, ltsEs_mem.2 ⟨shiftA Na a, List.mem_append_right _ (List.mem_map.2 ⟨a, hm, rfl⟩), ?_⟩, hs⟩;unfold arcD at e;injection e with e1 e2;injection e2 with e2 e3;unfold arcD shiftA;simp only;rw [← e1, ← e2, ← e3]
   congr 1
   ·omega
   ·congr 1
    omega
structure TwoS (w wr : World) (Na ia : Nat) (A : Option Addr) (n c : Nat) (B : Option Addr) (m d : Nat) (Nb ib : Nat) (A' : Option Addr) (n' c' : Nat) (B' : Option Addr) (m' d' : Nat) : Prop where
 boxa : LtsBox wr w.heap.size (Na : Int) (ia : Int) A n c B m d
 boxb : LtsBox wr (w.heap.size + 1) (Nb : Int) (ib : Int) A' n' c' B' m' d'
 bel : Below w.heap.size w wr
def TwoC (w w' : World) (Na ia : Nat) (A : Option Addr) (n c : Nat) (B : Option Addr) (m d : Nat) (Nb ib : Nat) (A' : Option Addr) (n' c' : Nat) (B' : Option Addr) (m' d' : Nat) : Prop :=
 w'.cell? ⟨w.heap.size, 0, none⟩ = some (.int .i64 (Na : Int)) ∧ w'.cell? ⟨w.heap.size, 1, none⟩ = some (.int .i64 (ia : Int)) ∧ w'.cell? ⟨w.heap.size, 2, none⟩ = some (.slice A n c) ∧ w'.cell? ⟨w.heap.size, 3, none⟩ = some (.slice B m d) ∧
 w'.cell? ⟨w.heap.size + 1, 0, none⟩ = some (.int .i64 (Nb : Int)) ∧ w'.cell? ⟨w.heap.size + 1, 1, none⟩ = some (.int .i64 (ib : Int)) ∧ w'.cell? ⟨w.heap.size + 1, 2, none⟩ = some (.slice A' n' c') ∧ w'.cell? ⟨w.heap.size + 1, 3, none⟩ = some (.slice B' m' d')
section
variable {w wr w2 : World} {Na ia : Nat} {A : Option Addr} {n c : Nat} {B : Option Addr} {m d : Nat} {Nb ib : Nat} {A' : Option Addr} {n' c' : Nat} {B' : Option Addr} {m' d' : Nat}
theorem TwoS.below (h : TwoS w wr Na ia A n c B m d Nb ib A' n' c' B' m' d') {K : Nat} (hb : Below K wr w2) (hK : wr.heap.size ≤ K) : TwoS w w2 Na ia A n c B m d Nb ib A' n' c' B' m' d' := by
 have := h.boxa.lt;have := h.boxb.lt;exact ⟨h.boxa.below hb (by omega), h.boxb.below hb (by omega), h.bel.trans (hb.mono (by omega))⟩
theorem TwoS.cells (h : TwoS w wr Na ia A n c B m d Nb ib A' n' c' B' m' d') : TwoC w wr Na ia A n c B m d Nb ib A' n' c' B' m' d' :=
 ⟨h.boxa.c0, h.boxa.c1, h.boxa.c2, h.boxa.c3, h.boxb.c0, h.boxb.c1, h.boxb.c2, h.boxb.c3⟩
theorem TwoS.start (w : World) (Na ia : Nat) (A : Option Addr) (n c : Nat) (B : Option Addr) (m d : Nat) (Nb ib : Nat) (A' : Option Addr) (n' c' : Nat) (B' : Option Addr) (m' d' : Nat) :
  TwoS w ((w.alloc (ltsC Na ia A n c B m d)).alloc (ltsC Nb ib A' n' c' B' m' d')) Na ia A n c B m d Nb ib A' n' c' B' m' d' := by
 have z1 : (w.alloc (ltsC Na ia A n c B m d)).heap.size = w.heap.size + 1 := World.size_alloc _ _;have b1 := (Below.refl (w.heap.size + 1) (w.alloc (ltsC Na ia A n c B m d))).alloc (by omega) (ltsC Nb ib A' n' c' B' m' d');have x1 : LtsBox (w.alloc (ltsC Na ia A n c B m d)) w.heap.size (Na : Int) (ia : Int) A n c B m d := heap_alloc_new w _;have x2 : LtsBox ((w.alloc (ltsC Na ia A n c B m d)).alloc (ltsC Nb ib A' n' c' B' m' d')) (w.heap.size + 1) (Nb : Int) (ib : Int) A' n' c' B' m' d' := by rw [← z1]; exact heap_alloc_new _ _
 exact ⟨x1.below b1 (by omega), x2, ((Below.refl w.heap.size w).alloc zR _).trans (b1.mono (by omega))⟩
end
theorem initialTogether_calls (Na ia : Nat) (A : Option Addr) (n c : Nat) (B : Option Addr) (m d : Nat) (Nb ib : Nat) (A' : Option Addr) (n' c' : Nat) (B' : Option Addr) (m' d' : Nat) (P : Option Addr) (cP : Nat) (p : List Int) (w : World) (lo hi : Nat) (hP : SlI w lo hi P (Na + Nb) p) (hia : ia < Na) (hib : ib < Nb) (hNa : Na ≤ 40) (hNb : Nb ≤ 40) :
  Calls Tryz.prog 136 #[.agg #[.int .i64 (Na : Int), .int .i64 (ia : Int), .slice A n c, .slice B m d], .agg #[.int .i64 (Nb : Int), .int .i64 (ib : Int), .slice A' n' c', .slice B' m' d'], .slice P (Na + Nb) cP] w (Says (decide (p[ia]? = p[Na + ib]?)) w) := by
 have hT := TwoS.start w Na ia A n c B m d Nb ib A' n' c' B' m' d';obtain ⟨w1, hw1⟩ : ∃ w1, w1 = (w.alloc (ltsC Na ia A n c B m d)).alloc (ltsC Nb ib A' n' c' B' m' d') := ⟨_, rfl⟩;rw [← hw1] at hT;obtain ⟨g, o, x, rfl, -, -, hg, hx, cx, -⟩ := SlI.get hP (show ia < Na + Nb by omega);obtain ⟨g2, o2, y, e2, -, -, hg2, hy, cy, -⟩ := SlI.get hP (show Na + ib < Na + Nb by omega);cases e2;replace cx := (hT.bel.cell (p := ⟨g, o + ia, none⟩) hg).trans cx;replace cy := (hT.bel.cell (p := ⟨g, o + (Na + ib), none⟩) hg).trans cy;obtain ⟨a0, a1, a2, a3, b0, b1, b2, b3⟩ := hT.cells;have hsum : IntKind.i64.wrap ((Na : Int) + (ib : Int)) = (Na : Int) + (ib : Int) := IntWalk.i64_in _ (by omega);have hsum2 : ((Na : Int) + (ib : Int)).toNat = Na + ib := by omega
 have i0 : (0 : Int) ≤ (ia : Int) := by omega
 have i1 : (ia : Int) < ((Na + Nb : Nat) : Int) := by omega
 have j0 : (0 : Int) ≤ (Na : Int) + (ib : Int) := by omega
 have j1 : (Na : Int) + (ib : Int) < ((Na + Nb : Nat) : Int) := by omega
 have hv : decide (p[ia]? = p[Na + ib]?) = (x == y) := by rw [hx, hy]; by_cases e : x = y <;> simp [e]
 rw [hv];have hbel := hide hT.bel;clear hT hP hx hy hv
 by_cases e : x = y
 ·subst e
  have g1 : (x == x) = true := by simp
  rw [g1];go_enter Tryz.func136, Tryz.ntmps136;go_upto_region 1 with fail;rw [show ((w.alloc (.cells #[.int .i64 (Na : Int), .int .i64 (ia : Int), .slice A n c, .slice B m d] 27)).alloc (.cells #[.int .i64 (Nb : Int), .int .i64 (ib : Int), .slice A' n' c', .slice B' m' d'] 27)) = w1 from hw1.symm];replace hw1 := hide hw1;go_quiet (fail);go_wp2_with fail;go_ret;exact ⟨rfl, hbel.out.trans ((below_drewN _ _).mono hbel.out.size)⟩
 ·have g1 : (x == y) = false := by rw [beq_eq_false_iff_ne]; exact e
  rw [g1];go_enter Tryz.func136, Tryz.ntmps136;go_upto_region 1 with fail;rw [show ((w.alloc (.cells #[.int .i64 (Na : Int), .int .i64 (ia : Int), .slice A n c, .slice B m d] 27)).alloc (.cells #[.int .i64 (Nb : Int), .int .i64 (ib : Int), .slice A' n' c', .slice B' m' d'] 27)) = w1 from hw1.symm];replace hw1 := hide hw1;go_quiet (fail);go_wp2_with fail;go_ret;exact ⟨rfl, hbel.out.trans ((below_drewN _ _).mono hbel.out.size)⟩
section
variable {w : World} {Na ia : Nat} {A : Option Addr} {n : Nat} {B : Option Addr} {m : Nat} {la : List ByteArray} {ea : List Ed} {Nb ib : Nat} {A' : Option Addr} {n' : Nat} {B' : Option Addr} {m' : Nat} {lb : List ByteArray} {eb : List Ed}
theorem SysA.three (h : SysA w Na ia A n B m la ea) : ∀ e, e ∈ ea → (0 ≤ e.1 ∧ e.1 < (Na : Int)) ∧ (0 ≤ e.2.1 ∧ e.2.1 < (la.length : Int)) ∧ (0 ≤ e.2.2 ∧ e.2.2 < (Na : Int)) := fun e he => ⟨(h.ends e he).1, h.labs e he, (h.ends e he).2⟩
end
end Go.Proofs.YtnhomkmfbngmgaaGreatDoor
namespace Go.Proofs.YtnhomkmfbngmgaaGreatDoor
open Go.ChangeShapes Go.WideShapes Go.ChangeAt Go.RowKit
theorem below_cells {B b : Nat} {a : World} (hb : B ≤ b) : ∀ (vs : List Value) (o : Nat) (w : World), Below B a w → Below B a (w.setCells b o vs)
 | [], _, _, h => h
 | v :: r, o, w, h => below_cells hb r (o + 1) _ (h.setCell hb v)
theorem size_cells (b : Nat) : ∀ (vs : List Value) (o : Nat) (w : World), (w.setCells b o vs).heap.size = w.heap.size
 | [], _, _ => rfl
 | v :: r, o, w => (size_cells b r (o + 1) _).trans (World.size_setCell _ _ _)
theorem filter_step {q : Int → Bool} {l : List Int} {k : Nat} {x : Int} (hx : l[k]? = some x) : (l.take (k + 1)).filter q = (l.take k).filter q ++ if q x then [x] else [] := by
 rw [List.take_add_one, hx, List.filter_append]
 cases h : q x <;> simp [h]
def firstI (G : Int → Bool) (l : List Int) (i : Int) : Prop := (i = -1 ∧ l.any G = false) ∨ ∃ k : Nat, i = k ∧ k < l.length ∧ (l.take k).any G = false ∧ ∃ x, l[k]? = some x ∧ G x = true
theorem indexFuncI2_calls (F : FuncId) (caps : Array Value) (G : Int → Bool) (A : Option Addr) (n c : Nat) (l : List Int) (w : World) (lo hi : Nat) (h : SlI w lo hi A n l) (hn : n ≤ 1048576)
  (hF : ∀ (v : Value) (W : World), Sem.run Tryz.prog (callFunc F (#[v] ++ caps)) W = .ok (.enter F (#[v] ++ caps)) W)
  (hcl : ∀ (v : Int) (W : World), v ∈ l → Below w.heap.size w W → Calls Tryz.prog F (#[.int .i64 v] ++ caps) W (Says (G v) W)) :
  Calls Tryz.prog 222 #[.slice A n c, .func (.func F) #[] caps] w fun e w' => ∃ i : Int, e = .returned (.int .i64 i) ∧ firstI G l i ∧ Below w.heap.size w w' := by
 have hlen := hide h.len;replace hcl := hide hcl;go_enter Tryz.func222, Tryz.ntmps222
 go_wp2
 go_loopw [8] (fun i wr => ∃ k : Nat, k ≤ n ∧ i = .int .i64 k ∧ Below w.heap.size w wr ∧ Hid ((l.take k).any G = false)) (fun i _ => n - (intOf i).toNat)
 case atStart => exact ⟨0, Nat.zero_le _, rfl, bR, rfl⟩
 case round =>
  obtain ⟨k, hk, rfl, hb, ha⟩ := hrel
  by_cases hlt : k < n
  ·obtain ⟨b, off, x, rfl, g1, g2, g3, hx, c0, -⟩ := h.get hlt
   replace c0 := (hb.cell (p := ⟨b, off + k, none⟩) g3).trans c0;have hc := hcl.out x wr (List.mem_of_getElem? hx) hb;replace hx := hide hx;clear h hcl
   by_cases hg : G x = true
   ·rw [hg] at hc
    replace hc := hide hc;have hy : Hid (firstI G l k) := .inr ⟨k, rfl, by rw [hlen.out]; exact hlt, ha.out, x, hx.out, hg⟩;clear hg;go_wp2_with fail;refine hc.out.mono ?_;rintro e w1 ⟨rfl, hb1⟩;go_wp2_with fail;go_ret;exact ⟨_, rfl, hy.out, hb.trans (hb1.mono hb.size)⟩
   ·replace hg := Bool.eq_false_iff.2 hg
    rw [hg] at hc;replace hc := hide hc;have hy := hide (any_take_succ ha.out hx.out hg);clear hg;go_wp2_with fail;refine hc.out.mono ?_;rintro e w1 ⟨rfl, hb1⟩;go_wp2_with fail;go_roundw
    case rel => exact ⟨k + 1, by omega, by go_num, hb.trans (hb1.mono hb.size), hy⟩
    case measure => simp [intOf]; omega
  ·have hkn : k = n := by omega
   subst hkn;clear hcl h
   go_wp2
   go_ret;have hy := ha.out
   rw [List.take_of_length_le (by rw [hlen.out]; exact zR)] at hy;exact ⟨_, rfl, .inl ⟨rfl, hy⟩, hb⟩
structure DelI (G : Int → Bool) (l M : List Int) (k i : Nat) : Prop where
 len : M.length = l.length
 cnt : i = ((l.take k).filter fun x => !G x).length
 lt : i < k
 kept : M.take i = (l.take k).filter fun x => !G x
 later : ∀ q, k ≤ q → M[q]? = l[q]?
theorem DelI.start {G : Int → Bool} {l : List Int} {k : Nat} {x : Int} (hk : k < l.length) (ha : (l.take k).any G = false) (hx : l[k]? = some x) (hg : G x = true) : DelI G l l (k + 1) k := by
 have h1 : (l.take (k + 1)).filter (fun x => !G x) = l.take k := by
  rw [filter_step hx, hg];simp only [Bool.not_true, Bool.false_eq_true, if_false, List.append_nil];exact List.filter_eq_self.2 fun y hy => by rw [Bool.not_eq_true']; exact Bool.eq_false_iff.2 fun c => by rw [List.any_eq_false] at ha; exact ha y hy c
 exact ⟨rfl, by rw [h1, List.length_take]; omega, Nat.lt_succ_self _, by rw [h1], fun _ _ => rfl⟩
theorem DelI.skip {G : Int → Bool} {l M : List Int} {k i : Nat} {x : Int} (h : DelI G l M k i) (hx : l[k]? = some x) (hg : G x = true) : DelI G l M (k + 1) i := by
 have h1 : (l.take (k + 1)).filter (fun x => !G x) = (l.take k).filter (fun x => !G x) := by rw [filter_step hx, hg]; simp
 exact ⟨h.len, by rw [h1]; exact h.cnt, by have := h.lt; omega, by rw [h1]; exact h.kept, fun q hq => h.later q (by omega)⟩
theorem DelI.put {G : Int → Bool} {l M : List Int} {k i : Nat} {x : Int} (h : DelI G l M k i) (hx : l[k]? = some x) (hg : G x = false) : DelI G l (M.set i x) (k + 1) (i + 1) := by
 have h1 : (l.take (k + 1)).filter (fun x => !G x) = (l.take k).filter (fun x => !G x) ++ [x] := by rw [filter_step hx, hg]; simp
 have hk : k < l.length := (List.getElem?_eq_some_iff.1 hx).1;have hil : i < M.length := by rw [h.len]; have := h.lt; omega
 refine ⟨by rw [List.length_set]; exact h.len, by rw [h1, List.length_append, ← h.cnt]; rfl, by have := h.lt; omega, ?_, fun q hq => ?_⟩
 ·rw [List.take_add_one, List.getElem?_set_self hil, h1, ← h.kept, List.take_set_of_le zR]
  rfl
 ·rw [List.getElem?_set_ne (by have := h.lt; omega)]
  exact h.later q (by omega)
theorem zero_int (w : World) : (zeroValue 2).run Tryz.prog w = .ok (.int .i64 0) w := by
 obtain ⟨i0, hi0, hz0, _⟩ := info_parts info_int64
 simp [zeroValue, typeInfo, hi0, hz0]
theorem deleteFuncI_calls (F : FuncId) (caps : Array Value) (G : Int → Bool) (A : Option Addr) (n c : Nat) (l : List Int) (w : World) (lo : Nat) (h : SlI w lo w.heap.size A n l) (hc : n ≤ c) (hn : n ≤ 1048576) (hlo : lo ≤ w.heap.size)
  (hF : ∀ (v : Value) (W : World), Sem.run Tryz.prog (callFunc F (#[v] ++ caps)) W = .ok (.enter F (#[v] ++ caps)) W)
  (hcl : ∀ (v : Int) (W : World), v ∈ l → Below lo w W → Calls Tryz.prog F (#[.int .i64 v] ++ caps) W (Says (G v) W)) :
  Calls Tryz.prog 126 #[.slice A n c, .func (.func F) #[] caps] w fun e w' => ∃ m c', e = .returned (.slice A m c') ∧ m ≤ n ∧ m ≤ c' ∧ SlI w' lo w'.heap.size A m (l.filter fun x => !G x) ∧ Below lo w w' := by
 have hlen := hide h.len;have q := hide (indexFuncI2_calls F caps G A n c l w lo _ h hn hF (fun v W hv hW => hcl v W hv (hW.mono hlo)));replace h := hide h;replace hcl := hide hcl;go_enter Tryz.func126, Tryz.ntmps126;go_wp2_with fail;refine q.out.mono ?_;rintro e w1 ⟨i, rfl, hfi, hb1⟩;have hbl := hb1.mono hlo;have h1 := hide ((h.out.below hb1 (.inr zR)).top);clear q
 rcases hfi with ⟨rfl, hno⟩ | ⟨k0, rfl, hk0, hno, x0, hx0, hg0⟩
 ·have hfl : Hid (l.filter (fun x => !G x) = l) := List.filter_eq_self.2 fun y hy => by rw [Bool.not_eq_true']; exact Bool.eq_false_iff.2 fun c => by rw [List.any_eq_false] at hno; exact hno y hy c
  clear hcl h hno;go_wp2_with fail;go_ret;exact ⟨n, _, rfl, zR, hc, by rw [hfl.out]; exact h1.out, hbl⟩
 ·rw [hlen.out] at hk0
  obtain ⟨b, off, y0, rfl, g1, g2, g3, -⟩ := h.out.get hk0;have hst := hide (DelI.start (by rw [hlen.out]; exact hk0) hno hx0 hg0);have hne : ((k0 : Int) == -1) = false := by rw [beq_eq_false_iff_ne]; omega
  clear hno hx0 hg0 h;go_wp2_with fail
  go_loopw [5, 6] (fun iv' jv wr => ∃ (k i : Nat) (M : List Int), k ≤ n ∧ jv = .int .i64 k ∧ iv' = .int .i64 i ∧ Hid (DelI G l M k i) ∧ Hid (SlI wr lo wr.heap.size (some ⟨b, off, none⟩) n M) ∧ Hid (Below lo w wr)) (fun _ jv _ => n - (intOf jv).toNat)
  case atStart => exact ⟨k0 + 1, k0, l, by omega, by go_num, rfl, hst, h1, hbl⟩
  case round =>
   obtain ⟨k, i, M, hk, rfl, rfl, hD, hM, hb⟩ := hrel;clear h1 hst;have hik := hD.out.lt
   by_cases hlt : k < n
   ·obtain ⟨b', o', x, e', -, -, g3', hx, c0, -⟩ := hM.out.get hlt
    cases e'
    rw [hD.out.later k zR] at hx;have hcx := hcl.out x wr (List.mem_of_getElem? hx) hb.out;have hzw := hb.out.size
    by_cases hg : G x = true
    ·rw [hg] at hcx
     replace hcx := hide hcx;have hD2 := hide (hD.out.skip hx hg);clear hcl hx hg;go_wp2_with fail;refine hcx.out.mono ?_;rintro e w2 ⟨rfl, hb2⟩;have hM2 := hide ((hM.out.below hb2 (.inr zR)).top);have hb3 := hide (hb.out.trans (hb2.mono (Nat.le_trans hlo hzw)));clear hb2 c0;go_wp2_with fail;go_roundw
     case rel => exact ⟨k + 1, i, M, by omega, by go_num, rfl, hD2, hM2, hb3⟩
     case measure => simp [intOf]; omega
    ·replace hg := Bool.eq_false_iff.2 hg
     rw [hg] at hcx;replace hcx := hide hcx;have hD2 := hide (hD.out.put hx hg);clear hcl hx hg;go_wp2_with fail;refine hcx.out.mono ?_;rintro e w2 ⟨rfl, hb2⟩;have hM2 := (hM.out.below hb2 (.inr zR)).top;have hM3 := hide (SlI.put' hM2 (show i < n by omega) x);obtain ⟨b', o', xx, e', -, -, -, -, d0, z0⟩ := SlI.get hM2 (show i < n by omega)
     cases e'
     have hb3 := hide ((hb.out.trans (hb2.mono (Nat.le_trans hlo hzw))).setCell (p := ⟨b, off + i, none⟩) g1 (.int .i64 x));clear hb2 c0 hM2;have i1 : (0 : Int) ≤ (i : Int) := by omega
     have i2 : (i : Int) < (n : Int) := by omega
     go_wp2_with fail;go_roundw
     case rel => exact ⟨k + 1, i + 1, _, by omega, by go_num, by go_num, hD2, by show SlI _ _ _ _ _ _; rw [World.size_setCell]; exact hM3.out, hb3⟩
     case measure => simp [intOf]; omega
   ·have hkn : k = n := by omega
    subst hkn;clear hcl;have hkept := hD.out.kept;have hcnt := hD.out.cnt;have htk : l.take k = l := List.take_of_length_le (by rw [hlen.out]; exact zR);rw [htk] at hkept hcnt;have hcut : ∀ W : World, (Instr.slice 32 (.slice (some ⟨b, off, none⟩) k c) (some (.int .i64 (i : Int))) none none).run Tryz.prog W = .ok (.slice (some ⟨b, off + i, none⟩) (k - i) (c - i)) W := fun W => by
     rw [run_cut elem_int64 (some ⟨b, off, none⟩) k c i (by omega) W];unfold cutA;rw [if_neg (by omega), Option.map_some, addr_add, Nat.mul_one]
    have hhead : ∀ W : World, (Instr.slice 32 (.slice (some ⟨b, off, none⟩) k c) none (some (.int .i64 (i : Int))) none).run Tryz.prog W = .ok (.slice (some ⟨b, off, none⟩) i c) W := fun W => run_head elem_int64 (some ⟨b, off, none⟩) k c i (by omega) W
    have hcl : ∀ ty : TypeId, (Builtin.clear_ #[32] ty #[.slice (some ⟨b, off + i, none⟩) (k - i) (c - i)]).run Tryz.prog wr = .ok (.tuple #[]) (wr.setCells b (off + i) (List.replicate (k - i) (.int .i64 0))) := fun ty =>
     Lib.run_clear_slice wr 32 2 ty (.int .i64 0) Tryz.underlying32 zero_int rfl rfl b (off + i) (k - i) (c - i) (by omega) (fun j hj => by
      obtain ⟨b', o', xx, e', -, -, -, -, d0, -⟩ := hM.out.get (show i + j < k by omega)
      cases e'
      rw [show off + i + j = off + (i + j) by omega, d0]; rfl) (fun j hj => by
      obtain ⟨b', o', xx, e', -, -, -, -, -, z0⟩ := hM.out.get (show i + j < k by omega)
      cases e'
      rw [show off + i + j = off + (i + j) by omega]; exact z0)
    have hres : Hid (SlI (wr.setCells b (off + i) (List.replicate (k - i) (.int .i64 0))) lo (wr.setCells b (off + i) (List.replicate (k - i) (.int .i64 0))).heap.size (some ⟨b, off, none⟩) i (l.filter fun x => !G x)) := by
     refine ⟨hcnt.symm, fun hi0 => ?_⟩;obtain ⟨b', o', e', q1, q2, q3, q4⟩ := hM.out.at_ (show 0 < k by omega)
     cases e'
     refine ⟨b, off, rfl, q1, by rw [size_cells]; exact q3, by rw [size_cells]; exact q3, fun j x hx u v hv => ?_⟩;rw [← hkept, List.getElem?_take] at hx
     split at hx
     ·obtain ⟨r1, r2⟩ := q4 j x hx u v hv
      have hu : u = 0 := by
       have := (List.getElem?_eq_some_iff.1 hv).1
       simp [iv] at this
       exact this
      subst hu;exact ⟨(World.cell?_setCells_out b _ _ _ _ (fun _ _ => by left; show off + (j * 1 + 0) < off + i; omega)).trans r1, (World.frozen?_setCells b _ _ _ _).trans r2⟩
     ·cases hx
    have hbF : Hid (Below lo w (wr.setCells b (off + i) (List.replicate (k - i) (.int .i64 0)))) := below_cells g1 _ _ _ hb.out;clear hkept hcnt;go_wp2_with fail;go_ret;exact ⟨i, _, rfl, by omega, by omega, hres.out, hbF.out⟩
open Go.Sort
def numBR (s : List Bool) : Nat := (s.filter id).length
theorem numBR_le (s : List Bool) : numBR s ≤ s.length := List.length_filter_le _ _
theorem numBR_set {s : List Bool} : ∀ {v : Nat}, v < s.length → inS s v = false → numBR (s.set v true) = numBR s + 1 := by
 induction s with
 | nil => intro v h; simp at h
 | cons b s ih =>
  intro v hv h
  cases v with
  | zero =>
   have hb : b = false := by simpa [inS] using h
   subst hb
   simp [numBR]
  | succ v =>
   have h1 := ih (v := v) (by simpa using hv) (by simpa [inS] using h);unfold numBR at h1 ⊢
   cases b <;> simp [List.filter_cons] at h1 ⊢ <;> omega
def ReachE (es : List Ed) (ini : Int) (k : Nat) : Prop := ∃ m, lay (srcE [ini]) (arcE true es) m k
noncomputable def reachB (es : List Ed) (ini : Int) (k : Nat) : Bool := open Classical in decide (ReachE es ini k)
theorem reachB_true {es : List Ed} {ini : Int} {k : Nat} : reachB es ini k = true ↔ ReachE es ini k := by
 unfold reachB
 simp
noncomputable def reachF (N : Nat) (es : List Ed) (ini : Int) : List Int := ((List.range N).filter (reachB es ini)).map Int.ofNat
theorem ReachE.step {es : List Ed} {ini : Int} {a k : Nat} (h : ReachE es ini a) (ha : arcE true es a k) : ReachE es ini k := by
 obtain ⟨m, hm⟩ := h;exact ⟨m + 1, .inr ⟨a, hm, ha⟩⟩
theorem SlB.cell' {w : World} {lo hi n b off : Nat} {l : List Bool} (h : SlB w lo hi (some ⟨b, off, none⟩) n l) {k : Nat} (hk : k < n) : w.cell? ⟨b, off + k, none⟩ = some (.bool (inS l k)) ∧ w.frozen? ⟨b, off + k, none⟩ = false ∧ lo ≤ b ∧ b < hi ∧ b < w.heap.size := by
 obtain ⟨b', off', e, g1, g2, g3, -, h1, h2⟩ := h.get hk
 cases e
 exact ⟨h1, h2, g1, g2, g3⟩
theorem range_succ_int (k : Nat) : (List.range (k + 1)).map Int.ofNat = (List.range k).map Int.ofNat ++ [(k : Int)] := by
 rw [List.range_succ, List.map_append]
 rfl
theorem upTo_calls (N : Nat) (hN : N ≤ 1048000) (w : World) :
  Calls Tryz.prog 127 #[.int .i64 (N : Int)] w fun e w' => ∃ A c, e = .returned (.slice A N c) ∧ Own 1 iv w' w.heap.size 2 A N c ((List.range N).map Int.ofNat) ∧ Below w.heap.size w w' := by
 have hE := hide elem_int64;go_enter Tryz.func127, Tryz.ntmps127
 go_wp2
 go_loopw [3, 6] (fun v i wr => ∃ (k : Nat) (A : Option Addr) (c : Nat), k ≤ N ∧ i = .int .i64 (k : Nat) ∧ v = .slice A k c ∧ Hid (Own 1 iv wr w.heap.size 2 A k c ((List.range k).map Int.ofNat)) ∧ Below w.heap.size w wr) (fun _ i _ => N - (intOf i).toNat)
 case atStart => exact ⟨0, none, 0, Nat.zero_le _, rfl, rfl, Own.nil_ _ _ _, bR⟩
 case round =>
  obtain ⟨k, A, c, hk, rfl, rfl, hown, hb⟩ := hrel
  by_cases hlt : k < N
  ·have hz := hb.size
   have hza : ∀ o, w.heap.size ≤ (wr.alloc o).heap.size := fun o => by rw [World.size_alloc]; omega
   have hst := hide (range_succ_int k);replace hb := hide hb;go_wp2_with (first | (at_builtin; (with_reducible refine wpList_app rfl (.tmp 9) (.tmp 11) rfl hE.out flat_iv rfl (hown.out.alloc _) rfl (Sl.lit1' wr 2 (k : Int) _ rfl 1 _ ?c0) ?c1 (hza _) ?_); rotate_right; intro A5 c5 w5 hown5 hgr5 hb5 _))
   case c0 => rfl
   case c1 => omega
   have hb6 := hide ((hb.out.alloc hz (.cells #[.int .i64 (k : Int)] 2)).trans hb5);go_roundw
   case rel => exact ⟨k + 1, A5, c5, by omega, by go_num, rfl, by rw [hst.out]; exact hown5, hb6.out⟩
   case measure => simp [intOf]; omega
  ·have hkn : k = N := by omega
   subst hkn;replace hb := hide hb
   go_wp2
   go_ret;exact ⟨A, c, rfl, hown.out, hb.out⟩
def atI (l : List Int) (v : Int) : Int := (l[v.toNat]?).getD 0
theorem atI_get {l : List Int} {k : Nat} {x : Int} (h : l[k]? = some x) : atI l (k : Int) = x := by
 unfold atI;rw [Int.toNat_natCast, h]
 rfl
theorem dist_reach {N : Nat} {es : List Ed} {ini : Int} {far : List Int} (h : DistIs (srcE [ini]) (arcE true es) N far) {k : Nat} (hk : k < N) : (!(decide (atI far (k : Int) < 0))) = reachB es ini k := by
 have hx : far[k]? = some (far[k]'(by rw [h.1]; exact hk)) := List.getElem?_eq_getElem _;rw [atI_get hx];generalize far[k]'(by rw [h.1]; exact hk) = x at *;obtain ⟨h1, h2⟩ := h.2 k x hx
 by_cases h0 : x < 0
 ·rw [decide_eq_true h0]
  cases e : reachB es ini k with
  | false => rfl
  | true =>
   obtain ⟨m, hm⟩ := reachB_true.1 e;exact absurd hm ((h2 h0).2 m)
 ·rw [decide_eq_false h0]
  exact (reachB_true.2 ⟨_, (h1 (by omega)).1⟩).symm
theorem filter_reach {N : Nat} {es : List Ed} {ini : Int} {far : List Int} (h : DistIs (srcE [ini]) (arcE true es) N far) : (((List.range N).map Int.ofNat).filter fun v => !(decide (atI far v < 0))) = reachF N es ini := by
 unfold reachF;rw [List.filter_map]
 congr 1
 apply List.filter_congr
 intro k hk;exact dist_reach h (List.mem_range.1 hk)
theorem reach1_calls (b : Nat) (A : Option Addr) (n c : Nat) (far : List Int) (v : Int) (W : World) (lo hi : Nat) (hb : W.cell? ⟨b, 0, none⟩ = some (.slice A n c)) (h : SlI W lo hi A n far) (h0 : 0 ≤ v) (h1 : v < (n : Int)) :
  Calls Tryz.prog 128 (#[.int .i64 v] ++ #[.pointer (some ⟨b, 0, none⟩)]) W (Says (decide (atI far v < 0)) W) := by
 obtain ⟨b', off, x, rfl, -, -, -, hx, c0, -⟩ := SlI.get h (show v.toNat < n by omega);have hv : Hid (atI far v = x) := by show _ = _; unfold atI; rw [hx]; rfl
 clear hx h;go_enter Tryz.func128, Tryz.ntmps128;go_wp2_with fail;go_ret;exact ⟨ret_b (by rw [hv.out]), bR⟩
theorem reachable_calls (N ini : Nat) (v2 : Value) (A3 : Option Addr) (n3 k3 : Nat) (es : List Ed) (w : World) (lo hi : Nat)
  (t3 : SlE w lo hi A3 n3 es) (hes : n3 ≤ 1048576) (hN1 : 1 ≤ N) (hN2 : N ≤ 40) (hini : ini < N) (hv2 : ∃ A n k, v2 = .slice A n k)
  (hedge : ∀ e ∈ es, (0 ≤ e.1 ∧ e.1 < (N : Int)) ∧ (0 ≤ e.2.2 ∧ e.2.2 < (N : Int))) :
  Calls Tryz.prog 58 #[.agg #[.int .i64 (N : Int), .int .i64 (ini : Int), v2, .slice A3 n3 k3]] w fun e w' => ∃ A m c, e = .returned (.slice A m c) ∧ SlI w' w.heap.size w'.heap.size A m (reachF N es (ini : Int)) ∧ m ≤ 40 ∧ m ≤ c ∧ Below w.heap.size w w' := by
 obtain ⟨A2, n2, k2, rfl⟩ := hv2;have hb0 : Below w.heap.size w (w.alloc (.cells #[.int .i64 (N : Int), .int .i64 (ini : Int), .slice A2 n2 k2, .slice A3 n3 k3] 27)) := bR.alloc zR _;have kE := heap_alloc_new w (.cells #[.int .i64 (N : Int), .int .i64 (ini : Int), .slice A2 n2 k2, .slice A3 n3 k3] 27);have hz : w.heap.size < (w.alloc (.cells #[.int .i64 (N : Int), .int .i64 (ini : Int), .slice A2 n2 k2, .slice A3 n3 k3] 27)).heap.size := by rw [World.size_alloc]; omega
 replace t3 := t3.below hb0 (.inr zR);have hz' := Nat.le_of_lt hz;replace hb0 := hide hb0;go_enter Tryz.func58, Tryz.ntmps58;go_upto_region 1 with fail;generalize (w.alloc (.cells #[.int .i64 (N : Int), .int .i64 (ini : Int), .slice A2 n2 k2, .slice A3 n3 k3] 27)) = W0 at *;generalize hbm : w.heap.size = bm at *;have c0 : W0.cell? ⟨bm, 0, none⟩ = some (.int .i64 (N : Int)) := cR 0 kE;have c1 : W0.cell? ⟨bm, 1, none⟩ = some (.int .i64 (ini : Int)) := cR 1 kE;have c2 : W0.cell? ⟨bm, 2, none⟩ = some (.slice A2 n2 k2) := cR 2 kE;have c3 : W0.cell? ⟨bm, 3, none⟩ = some (.slice A3 n3 k3) := cR 3 kE;have hbl : Below W0.heap.size W0 (W0.alloc (.cells #[.int .i64 (ini : Int)] 2)) := bR.alloc zR _;have q := hide (distancesF_calls N (ini : Int) (.slice A2 n2 k2) A3 n3 k3 (some ⟨W0.heap.size, 0, none⟩) 1 1 es [(ini : Int)] _ lo hi 0 _ (t3.below hbl (.inr zR)) (Sl.lit1' W0 2 (ini : Int) _ rfl 1 _ rfl) hes (by omega) hN1 hN2 hedge (fun v hv => by simp at hv; omega));have hblz := hbl.size;replace hbl := hide hbl;replace kE := hide kE;clear t3 hedge;go_wp2_with fail;refine q.out.mono ?_;rintro e w1 ⟨Af, cf, rfl, hf, hd, hb1⟩;have hbA := hbl.out.trans (hb1.mono hblz);have hzA := hbA.size;have hbox : Below w1.heap.size w1 (w1.alloc (.cells #[.slice Af N cf] 32)) := bR.alloc zR _;have kB := heap_alloc_new w1 (.cells #[.slice Af N cf] 32);have hbB := hbA.trans (hbox.mono hzA);have kE2 := (hbB.block _ hz).trans kE.out;have d0 : (w1.alloc (.cells #[.slice Af N cf] 32)).cell? ⟨bm, 0, none⟩ = some (.int .i64 (N : Int)) := cR 0 kE2;have q2 := hide (upTo_calls N (by omega) (w1.alloc (.cells #[.slice Af N cf] 32)));have hfB := Sl.below hf hbox (.inr zR);have hbs : w1.heap.size < (w1.alloc (.cells #[.slice Af N cf] 32)).heap.size := by rw [World.size_alloc]; omega
 have hdr := hide (filter_reach hd);replace hbB := hide hbB;replace kB := hide kB;clear kE kE2 q hf hbox hbA c0 c1 c2 c3;go_upto_region 2 with fail;generalize (w1.alloc (.cells #[.slice Af N cf] 32)) = WB at *;generalize w1.heap.size = bb at *;go_wp2_with fail;refine q2.out.mono ?_;rintro e w2 ⟨A, c, rfl, hown, hb2⟩;have hsl := hown.sl flat_iv;have hcap := hown.cap;have hmem : ∀ v ∈ (List.range N).map Int.ofNat, 0 ≤ v ∧ v < (N : Int) := fun v hv => by
  obtain ⟨k, hk, rfl⟩ := List.mem_map.1 hv;have := List.mem_range.1 hk;exact ⟨Int.natCast_nonneg _, by show (k : Int) < _; omega⟩
 have q3 := hide (deleteFuncI_calls 128 #[.pointer (some ⟨bb, 0, none⟩)] (fun v => decide (atI (distF true N es [(ini : Int)]) v < 0)) A N c _ w2 WB.heap.size hsl hcap (by omega) hb2.size (fun v W => by kernel_rfl) (fun v W hv hW => by
  obtain ⟨h0, h1⟩ := hmem v hv;have hW2 := hb2.trans hW;exact reach1_calls bb Af N cf _ v W _ _ ((hW2.cell (p := ⟨bb, 0, none⟩) hbs).trans (cR 0 kB.out)) (Sl.below hfB hW2 (.inl (by omega))) h0 h1))
 replace hb2 := hide hb2;clear hsl hmem hown hfB kB d0;go_wp2_with fail;refine q3.out.mono ?_;rintro e w3 ⟨m, c', rfl, hmn, hmc, hres, hb3⟩;have hbw := hide (hbB.out.trans ((hb2.out.trans hb3).mono hbB.out.size));have hres2 := hide hres;clear hb3 hres;go_wp2_with fail;go_ret;have hr := hres2.out.more (show bm ≤ WB.heap.size by have := hbB.out.size; omega) zR;rw [hdr.out] at hr;exact ⟨A, m, c', rfl, by first | exact hr | (rw [hbm]; exact hr), by omega, hmc, by first | exact hb0.out.trans (hbw.out.mono hz') | (rw [hbm]; exact hb0.out.trans (hbw.out.mono hz'))⟩
end Go.Proofs.YtnhomkmfbngmgaaGreatDoor
namespace Go.Proofs.YtnhomkmfbngmgaaGreatDoor
open Go.ChangeShapes Go.WideShapes Go.ChangeAt Go.RowKit
def FstI (l : List Int) (v i : Int) : Prop := (i = -1 ∧ v ∉ l) ∨ ∃ k : Nat, i = k ∧ k < l.length ∧ l[k]? = some v
theorem indexX_calls (v : Int) (A : Option Addr) (n c : Nat) (l : List Int) (w : World) (lo hi : Nat) (h : SlI w lo hi A n l) (hn : n ≤ 1048576) :
  Calls Tryz.prog 130 #[.slice A n c, .int .i64 v] w fun e w' => ∃ i : Int, e = .returned (.int .i64 i) ∧ FstI l v i ∧ w = w' := by
 have hlen := hide h.len;go_enter Tryz.func130, Tryz.ntmps130
 go_wp2
 go_loop [8] (fun i => ∃ k : Nat, k ≤ n ∧ i = .int .i64 k ∧ Hid (v ∉ l.take k)) (fun i => n - (intOf i).toNat)
 case atStart => exact ⟨0, Nat.zero_le _, rfl, by rw [List.take_zero]; exact List.not_mem_nil⟩
 case round =>
  obtain ⟨k, hk, rfl, ha⟩ := hrel
  by_cases hlt : k < n
  ·obtain ⟨b, off, x, rfl, g1, g2, g3, hx, c0, -⟩ := SlI.get h hlt
   clear h;have hx2 := hide hx
   by_cases hq : x = v
   ·subst hq
    clear hx
    go_wp2
    go_ret;exact ⟨_, rfl, .inr ⟨k, rfl, (List.getElem?_eq_some_iff.1 hx2.out).1, hx2.out⟩, rfl⟩
   ·have hy : Hid (v ∉ l.take (k + 1)) := by
     show ¬ _
     rw [List.take_add_one, hx, List.mem_append];rintro (h1 | h1)
     ·exact ha.out h1
     ·exact hq (List.mem_singleton.1 h1).symm
    have hne : (v == x) = false := by rw [beq_eq_false_iff_ne]; exact fun e => hq e.symm
    clear hx hq
    go_wp2
    go_round
    case rel => exact ⟨k + 1, by omega, by go_num, hy⟩
    case measure => simp [intOf]; omega
  ·have hkn : k = n := by omega
   subst hkn;clear h
   go_wp2
   go_ret;have hy := ha.out
   rw [List.take_of_length_le (by rw [hlen.out]; exact zR)] at hy;exact ⟨_, rfl, .inl ⟨rfl, hy⟩, rfl⟩
theorem containsX_calls (v : Int) (A : Option Addr) (n c : Nat) (l : List Int) (w : World) (lo hi : Nat) (h : SlI w lo hi A n l) (hn : n ≤ 1048576) :
  Calls Tryz.prog 193 #[.slice A n c, .int .i64 v] w fun e w' => e = .returned (.bool (decide (v ∈ l))) ∧ w = w' := by
 have q := hide (indexX_calls v A n c l w lo hi h hn);clear h;go_enter Tryz.func193, Tryz.ntmps193;go_wp2_with fail;refine q.out.mono ?_;rintro e w1 ⟨i, rfl, hi, rfl⟩
 rcases hi with ⟨rfl, h1⟩ | ⟨k, rfl, -, h1⟩
 ·have hv : Hid (decide (v ∈ l) = false) := decide_eq_false h1
  clear q;go_wp2_with fail;go_ret;exact ⟨ret_b hv.out, rfl⟩
 ·have hv : Hid (decide (v ∈ l) = true) := decide_eq_true (List.mem_of_getElem? h1)
  have k0 : (0 : Int) ≤ (k : Int) := by omega
  clear q;go_wp2_with fail;go_ret;exact ⟨ret_b hv.out, rfl⟩
end Go.Proofs.YtnhomkmfbngmgaaGreatDoor
