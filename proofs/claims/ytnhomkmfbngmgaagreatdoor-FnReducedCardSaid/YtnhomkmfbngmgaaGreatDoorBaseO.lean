/-
  Lemmas that the law of this claim leans on. Conditions: sizes.
-/
import Derived.Test.YtnhomkmfbngmgaaGreatDoorBaseA
import Derived.Test.YtnhomkmfbngmgaaGreatDoorBaseF
import Derived.Test.YtnhomkmfbngmgaaGreatDoorBaseJ
import Derived.Test.YtnhomkmfbngmgaaGreatDoorBaseM
set_option maxHeartbeats 12800000
set_option maxRecDepth 100000
set_option linter.unusedSimpArgs false
set_option linter.unusedVariables false
namespace Go.Proofs.YtnhomkmfbngmgaaGreatDoor
open Go.ChangeShapes Go.WideShapes Go.ChangeAt Go.RowKit Go.Sort
theorem truth_calls (b : Bool) (w : World) : Calls Tryz.prog 202 #[.bool b] w fun e w' => e = .returned (.int .i64 (if b then 1 else 0)) ∧ w = w' := by
 cases b
 all_goals
  go_enter Tryz.func202, Tryz.ntmps202;go_wp2_with fail;go_ret;exact ⟨rfl, rfl⟩
theorem below_grown {w w' : World} {row : Option Nat} {B : Nat} (hg : w.grownBy w' row) (hB : B ≤ w.heap.size) (hr : ∀ q, row = some q → B ≤ q) : Below B w w' :=
 ⟨hg.os, hg.tape, hg.output, hg.size, fun q hq => hg.block q (by omega) fun e => by have := hr q e.symm; omega⟩
theorem GrowH.rowsI {w : World} {base n c : Nat} {A : Option Addr} {R : List (Hd × List Int)} (h : GrowH w base A n c R) (hl : ∀ r, r ∈ R → r.1.2.1 ≤ 1048576) : RowsI 1048576 w base w.heap.size A n R :=
 ⟨h.own.sl flat_sv, fun r hr => ⟨h.rows r hr, hl r hr⟩⟩
theorem refineBranching_calls {w : World} {N ini : Nat} {A : Option Addr} {n : Nat} {B : Option Addr} {m : Nat} {ls : List ByteArray} {es : List Ed} (h : SysA w N ini A n B m ls es) (c d : Nat) (P : Option Addr) (cP : Nat) (p : List Int) (hP : SlI w 0 w.heap.size P N p) (hp : PartN N p) (dv : Bool) :
  Calls Tryz.prog 108 #[.agg #[.int .i64 (N : Int), .int .i64 (ini : Int), .slice A n c, .slice B m d], .slice P N cP, .bool dv] w fun e w' => ∃ Q, e = .returned (.slice (some ⟨Q, 0, none⟩) N N) ∧ SlI w' w.heap.size w'.heap.size (some ⟨Q, 0, none⟩) N (refB es N dv p) ∧ Below w.heap.size w w' := by
 have hER := hide elem_rowI;have hE := hide elem_int64;have hmn := h.many;obtain ⟨⟨hN1, hN2⟩, hini⟩ := h.bounds;have hed := hide h.edges;have hthr := hide h.three;have hnm := hide (ltsV_names h.ok).1;have hokI := hide (filter_valid h.ok (inG p));have hprg := hide hp.range;have hB := h.box (c := c) (d := d);obtain ⟨w1, hw1⟩ : ∃ w1, w1 = w.alloc (ltsC N ini A n c B m d) := ⟨_, rfl⟩;rw [← hw1] at hB;have hP1 := (hP.below hB.bel (.inr zR)).here';have q1 := hide (inertOnly_calls hB.sys c d P cP p hP1);have b0 := hB.box.c0;have b1 := hB.box.c1;have b2 := hB.box.c2;have b3 := hB.box.c3;have hzw := hB.lt;have hsz0 := h.sz;replace hB := hide hB;have hP0 := hide hP;clear h hP hP1;go_enter Tryz.func108, Tryz.ntmps108;go_upto_region 1 with fail;rw [← show w1 = w.alloc (.cells #[.int .i64 (N : Int), .int .i64 (ini : Int), .slice A n c, .slice B m d] 27) from hw1];replace hw1 := hide hw1;go_wp2_with fail;refine q1.out.mono ?_;rintro e w2 ⟨B2, m2, d2, rfl, hE2, hm2, hb2⟩;have hB2 := hB.out.below hb2;have hsI : SysA w2 N ini A n B2 m2 ls (es.filter (inG p)) := ⟨hB2.sys.ss, hE2.here', hokI.out, hsz0⟩;have hBI := hsI.box (c := c) (d := d2);obtain ⟨w3, hw3⟩ : ∃ w3, w3 = w2.alloc (ltsC N ini A n c B2 m2 d2) := ⟨_, rfl⟩;rw [← hw3] at hBI;obtain ⟨bI, hbI⟩ : ∃ bI, bI = w2.heap.size := ⟨_, rfl⟩;have kI : LtsBox w3 bI (N : Int) (ini : Int) A n c B2 m2 d2 := by rw [hbI]; exact hBI.box
 have hsI3 := hBI.sys;have hb13 := hide (hb2.trans (hBI.bel.mono hb2.size));have q2 := hide (divergent_calls N ini A n c B2 m2 d2 (es.filter (inG p)) w3 hsI3.se (by omega) hN1 hN2 hsI3.edges);have i0 := kI.c0;have i1 := kI.c1;have i2 := kI.c2;have i3 := kI.c3;have hzI := kI.lt;replace hBI := hide hBI;replace hB2 := hide hB2;clear q1 hE2 hsI b0 b1 b2 b3;go_upto_region 2 with fail;rw [← show w3 = w2.alloc (.cells #[.int .i64 (N : Int), .int .i64 (ini : Int), .slice A n c, .slice B2 m2 d2] 27) from hw3, ← hbI];replace hw3 := hide hw3;replace hbI := hide hbI;replace hb2 := hide hb2;go_wp2_with fail;refine q2.out.mono ?_;rintro e w4 ⟨AD, cD, rfl, hD4, hb4⟩;have hsI4 := hsI3.below hb4 zR;have q3 := hide (internalSets_calls hsI4 c d2);have i0 := (kI.below hb4 hzI).c0;have i1 := (kI.below hb4 hzI).c1;have i2 := (kI.below hb4 hzI).c2;have i3 := (kI.below hb4 hzI).c3;have hz4 := hb4.size;replace hb4 := hide hb4;replace hD4 := hide hD4;clear q2;go_wp2_with fail;refine q3.out.mono ?_;rintro e w5 ⟨AS, cS, RS, rfl, hGS, hST, hb5⟩;obtain ⟨wB, rfl⟩ : ∃ wB : World, wB = w5 := ⟨_, rfl⟩;have hz5 := hb5.size;have hD5 := hide ((hD4.out.below hb5 (.inr zR)).here');have hb1B := hide (hb13.out.trans ((hb4.out.trans (hb5.mono hz4)).mono hb13.out.size));have hbel := hide (hB.out.bel.trans (hb1B.out.mono (Nat.le_of_lt hzw)));have hBB := hide (hB.out.below hb1B.out);have hPB := hide ((hP0.out.below hbel.out (.inr zR)).here');have hGS5 := hide hGS;have hSTh := hide hST;have hgk : Hid (GrowH wB wB.heap.size none 0 0 []) := ⟨Own.nil_ _ _ _, fun _ h => (List.not_mem_nil h).elim, fun _ h => (List.not_mem_nil h).elim⟩;replace hb5 := hide hb5;clear q3 hGS hST i0 i1 i2 i3 kI hsI3 hsI4;go_wp2_with fail
 go_loopw [9, 24] (fun v9 v24 wr => ∃ (k c9 : Nat) (A9 : Option Addr) (R : List (Hd × List Int)), k ≤ N ∧ v24 = .int .i64 (k : Nat) ∧ v9 = .slice A9 k c9 ∧ Hid (GrowH wr wB.heap.size A9 k c9 R) ∧ Hid (RowsTo (keyB es N dv p) k R) ∧ Hid (Below wB.heap.size wB wr)) (fun _ v _ => N - (intOf v).toNat)
 case atStart => exact ⟨0, 0, none, [], Nat.zero_le _, rfl, rfl, hgk.out, ⟨rfl, fun r hr => (List.not_mem_nil hr).elim⟩, bR⟩
 case round =>
  clear hgk;obtain ⟨k, c9, A9, R, hk, rfl, rfl, hG, hRs, hb⟩ := hrel
  by_cases hlt : k < N
  ·have k0 : (0 : Int) ≤ (k : Int) := by omega
   have k1 : (k : Int) < (N : Int) := by omega
   obtain ⟨wO, rfl⟩ : ∃ wO : World, wO = wr := ⟨_, rfl⟩;have hbO := hb;have hzO' := hbO.out.size;have hwO : w.heap.size < wO.heap.size := Nat.lt_of_lt_of_le hBB.out.box.lt hzO';obtain ⟨gS, oS, Ak, nk, ck, sk, e3, -, hgS, hRk, crk, hsk, -⟩ := (hGS5.out.below hbO.out).get hlt;subst e3;have hst := hSTh.out.2 k _ hRk
   (try dsimp only at hst)
   have hnk41 := hst.2;have hstar : Hid (∀ v, v ∈ sk ↔ 0 ≤ v ∧ StarR (inrE es p) k v.toNat) := fun v => (hst.1 v).trans (inert_star hed.out hnm.out fun e hx => (hthr.out e hx).2.1)
   have hoff := hide (offL_eq (ls := ls) hed.out hstar.out);replace hst := hide hst;replace hRk := hide hRk;have hskO := hide hsk;have b3 := (hBB.out.below hbO.out).box.c3;clear hsk hb;go_upto_region 8 with fail;go_wp2_with fail;clear crk b3
   go_loopw [12, 32] (fun v12 v32 wr => ∃ (j n12 c12 : Nat) (A12 : Option Addr), j ≤ m ∧ v32 = .int .i64 (j : Nat) ∧ v12 = .slice A12 n12 c12 ∧ n12 ≤ j ∧ Hid (Own 1 iv wr wO.heap.size 2 A12 n12 c12 (((es.take j).filter (ofG p sk)).map (cdE N p))) ∧ Hid (Below wO.heap.size wO wr)) (fun _ v _ => m - (intOf v).toNat)
   case atStart => exact ⟨0, 0, 0, none, Nat.zero_le _, rfl, rfl, zR, Own.nil_ _ _ _, bR⟩
   case round =>
    obtain ⟨j, n12, c12, A12, hj, rfl, rfl, hn12, hOf, hbx⟩ := hrel;have hzx := hbx.out.size;have hbOx := hide (hbO.out.trans (hbx.out.mono hzO'))
    by_cases hjlt : j < m
    ·have j0 : (0 : Int) ≤ (j : Int) := by omega
     have j1 : (j : Int) < (m : Int) := by omega
     have hBx := hBB.out.below hbOx.out;obtain ⟨gB, oB, f, l, t, rfl, -, -, hgB, hx, x0, x1, x2, -⟩ := SlE.get hBx.sys.se hjlt;have hin := hthr.out _ (List.mem_of_getElem? hx)
     (try dsimp only at hin)
     obtain ⟨⟨hf0, hf1⟩, ⟨hl0, hl1⟩, ht0, ht1⟩ := hin;obtain ⟨f, rfl⟩ : ∃ k : Nat, f = (k : Int) := ⟨f.toNat, by omega⟩;obtain ⟨t, rfl⟩ : ∃ k : Nat, t = (k : Int) := ⟨t.toNat, by omega⟩;have hfN : f < N := by omega
     have htN : t < N := by omega
     obtain ⟨gP, oP, pf, rfl, -, -, hgP0, hpf, -, -⟩ := SlI.get hPB.out hfN;obtain ⟨gP2, oP2, pt, e2, -, -, -, hpt, -, -⟩ := SlI.get hPB.out htN;cases e2;have hpr := hprg.out pt (List.mem_of_getElem? hpt);have hgPO : gP < wO.heap.size := by omega
     have hlN0 : 0 ≤ l * (N : Int) := Int.mul_nonneg hl0 (by omega);have hlN1 : l * (N : Int) ≤ 12 * 40 := Int.mul_le_mul (by omega) (by omega) (by omega) (by omega);have hm1 : IntKind.i64.wrap (l * (N : Int)) = l * (N : Int) := IntWalk.i64_in _ (by omega);have hm3 : IntKind.i64.wrap (l * (N : Int) + pt) = l * (N : Int) + pt := IntWalk.i64_in _ (by omega);obtain ⟨wE, hwE⟩ : ∃ wE, wE = wr.alloc (.cells #[.int .i64 (f : Int), .int .i64 l, .int .i64 (t : Int)] 84) := ⟨_, rfl⟩;obtain ⟨bE, hbE0⟩ : ∃ bE, bE = wr.heap.size := ⟨_, rfl⟩;have hbE : Hid (Below wr.heap.size wr wE) := by show Below _ _ _; rw [hwE]; exact bR.alloc zR _
     have kE : wE.heap[bE]? = some (.cells #[.int .i64 (f : Int), .int .i64 l, .int .i64 (t : Int)] 84 (0, 0)) := by rw [hwE, hbE0]; exact heap_alloc_new wr _
     have hbEl : bE < wE.heap.size := (Array.getElem?_eq_some_iff.1 kE).1;have hbEge : wO.heap.size ≤ bE := by omega
     have hbEle : wr.heap.size ≤ bE := by omega
     have hSS : Hid (∀ wx, Below wE.heap.size wE wx → wx.cell? ⟨bE, 0, none⟩ = some (.int .i64 (f : Int)) ∧ wx.cell? ⟨bE, 1, none⟩ = some (.int .i64 l) ∧ wx.cell? ⟨bE, 2, none⟩ = some (.int .i64 (t : Int)) ∧ wx.cell? ⟨gP, oP + f, none⟩ = some (.int .i64 pf) ∧ wx.cell? ⟨gP, oP + t, none⟩ = some (.int .i64 pt) ∧ wx.cell? ⟨w.heap.size, 0, none⟩ = some (.int .i64 (N : Int))) := fun wx hy => by
      have h1 := hbOx.out.trans ((hbE.out.trans (hy.mono hbE.out.size)).mono hbOx.out.size);have h2 := hBB.out.below h1;have h3 := hPB.out.below h1 (.inr zR);obtain ⟨g1, o1, v1, e1, -, -, -, hv1, c1, -⟩ := SlI.get h3 hfN;obtain ⟨g2, o2, v2, e2, -, -, -, hv2, c2, -⟩ := SlI.get h3 htN;cases e1;cases e2;rw [hpf] at hv1;rw [hpt] at hv2
      cases hv1
      cases hv2
      have k8 := (hy.block bE hbEl).trans kE;exact ⟨cR 0 k8, cR 1 k8, cR 2 k8, c1, c2, h2.box.c0⟩
     obtain ⟨wD, hwD⟩ : ∃ wD, wD = wE.drew := ⟨_, rfl⟩;have hbD : Hid (Below wE.heap.size wE wD) := by show Below _ _ _; rw [hwD]; exact bR.drew
     have hwr1 : Below wO.heap.size wO wD := hbx.out.trans ((hbE.out.trans (hbD.out.mono hbE.out.size)).mono hzx);have qCt := containsI_calls (f : Int) Ak nk ck sk wD _ _ (hskO.out.below hwr1 (.inr zR)) (by omega);have hfk0 : (0 : Int) ≤ (f : Int) := by omega
     have hfk1 : (f : Int) < (N : Int) := by omega
     have htk0 : (0 : Int) ≤ (t : Int) := by omega
     have htk1 : (t : Int) < (N : Int) := by omega
     replace hx := hide hx;replace hpf := hide hpf;replace hpt := hide hpt;replace kE := hide kE;go_upto_region 11 with fail;rw [← show wE = wr.alloc (.cells #[.int .i64 (f : Int), .int .i64 l, .int .i64 (t : Int)] 84) from hwE, ← hbE0];replace hwE := hide hwE;replace hwD := hide hwD;replace hbE0 := hide hbE0;clear x0 x1 x2 hBx hwr1
     by_cases hmem : (f : Int) ∈ sk
     ·have ha : (sk.any fun x => decide (x = (f : Int))) = true := List.any_eq_true.2 ⟨_, hmem, by simp⟩
      rw [ha] at qCt;replace qCt := hide qCt
      by_cases hl : l = 0
      ·have g3 : (l != 0) = false := by simp [hl]
       by_cases hpp : pf = pt
       ·have g4 : (pf != pt) = false := by simp [hpp]
        have hno : Hid (ofG p sk ((f : Int), l, (t : Int)) = false) := by
         show _ = _
         have : inG p ((f : Int), l, (t : Int)) = true := inG_true.2 ⟨hl, by simp only [Int.toNat_natCast]; rw [hpf.out, hpt.out, hpp]⟩;unfold ofG;rw [this]; simp
        replace hl := hide hl;replace hpp := hide hpp;replace ha := hide ha;replace hmem := hide hmem;refine lateT_begin (S := fun w' => w'.cell? ⟨bE, 0, none⟩ = some (.int .i64 (f : Int)) ∧ w'.cell? ⟨bE, 1, none⟩ = some (.int .i64 l) ∧ w'.cell? ⟨bE, 2, none⟩ = some (.int .i64 (t : Int)) ∧ w'.cell? ⟨gP, oP + f, none⟩ = some (.int .i64 pf) ∧ w'.cell? ⟨gP, oP + t, none⟩ = some (.int .i64 pt) ∧ w'.cell? ⟨w.heap.size, 0, none⟩ = some (.int .i64 (N : Int))) (st := 21) (by kernel_rfl) ?_;rw [← show wD = _ from hwD.out];have hS0 : (fun w' : World => w'.cell? ⟨bE, 0, none⟩ = some (.int .i64 (f : Int)) ∧ w'.cell? ⟨bE, 1, none⟩ = some (.int .i64 l) ∧ w'.cell? ⟨bE, 2, none⟩ = some (.int .i64 (t : Int)) ∧ w'.cell? ⟨gP, oP + f, none⟩ = some (.int .i64 pf) ∧ w'.cell? ⟨gP, oP + t, none⟩ = some (.int .i64 pt) ∧ w'.cell? ⟨w.heap.size, 0, none⟩ = some (.int .i64 (N : Int))) wD := hSS.out wD hbD.out;refine tkD 0 [3,4,21] hS0 ?_;refine tkD 1 [2,3,4,21] hS0 ?_;refine tkD 2 [3,4,21] hS0 ?_;refine lS 3 fun K hK => ?_
        (try go_simp)
        go_at_call 193
        (with_reducible refine qCt.out.mono ?_)
        rintro e w7 ⟨rfl, rfl⟩
        (try go_wp2_with fail)
        have hS1 := hSS.out wD hbD.out;refine kP hK (fun _ => hS1) ?_;clear hK K;refine tkD 4 [21] hS1 ?_;refine tkD 5 [6,7,8,20,21] hS1 ?_;refine tkD 6 [7,8,20,21] hS1 ?_;refine tkD 7 [8,20,21] hS1 ?_;refine tkD 8 [20,21] hS1 ?_;refine tkD 9 [12,13,19,20,21] hS1 ?_;refine tkD 10 [11,12,13,19,20,21] hS1 ?_;refine tkD 11 [12,13,19,20,21] hS1 ?_;refine tkD 12 [13,19,20,21] hS1 ?_;refine tkD 13 [19,20,21] hS1 ?_;refine tkD 14 [17,18,19,20,21] hS1 ?_;refine tkD 15 [16,17,18,19,20,21] hS1 ?_;refine tkD 16 [17,18,19,20,21] hS1 ?_;refine tkD 17 [18,19,20,21] hS1 ?_;refine tkD 18 [19,20,21] hS1 ?_;refine tkD 19 [20,21] hS1 ?_;refine tkD 20 [21] hS1 ?_;refine lS 21 fun K hK => ?_
        go_simp;refine kP hK nH ?_
        clear hK K;refine lateT_done (by kernel_rfl) ?_ _;have hstep : Hid (((es.take (j + 1)).filter (ofG p sk)).map (cdE N p) = ((es.take j).filter (ofG p sk)).map (cdE N p)) := by
         show _ = _
         rw [List.take_add_one, hx.out, List.filter_append, List.map_append]
         show _ ++ List.map (cdE N p) (List.filter (ofG p sk) [((f : Int), l, (t : Int))]) = _
         rw [List.filter_cons_of_neg (by rw [hno.out]; decide)]
         simp
        have hOk : Hid (Own 1 iv wD wO.heap.size 2 A12 n12 c12 (((es.take (j + 1)).filter (ofG p sk)).map (cdE N p))) := by show Own _ _ _ _ _ _ _ _ _; rw [hstep.out, hwD.out, hwE.out]; exact (hOf.out.alloc _).keep fun _ _ => rfl
        have hbW := hide (hbx.out.trans ((hbE.out.trans (hbD.out.mono hbE.out.size)).mono hzx));go_wp2_with fail;go_roundw
        case rel => exact ⟨j + 1, n12, c12, A12, by omega, by go_num, rfl, by omega, hOk.out, hbW.out⟩
        case measure => simp [intOf]; omega
       ·have g4 : (pf != pt) = true := by rw [bne_iff_ne]; exact hpp
        have hyes : Hid (ofG p sk ((f : Int), l, (t : Int)) = true) := by
         show _ = _
         have : inG p ((f : Int), l, (t : Int)) = false := Bool.eq_false_iff.2 fun h => by
          have := (inG_true.1 h).2;simp only [Int.toNat_natCast] at this;rw [hpf.out, hpt.out] at this;exact hpp (Option.some.inj this)
         unfold ofG;rw [this]
         simp [hmem]
        replace hl := hide hl;replace hpp := hide hpp;replace ha := hide ha;replace hmem := hide hmem;refine lateT_begin (S := fun w' => w'.cell? ⟨bE, 0, none⟩ = some (.int .i64 (f : Int)) ∧ w'.cell? ⟨bE, 1, none⟩ = some (.int .i64 l) ∧ w'.cell? ⟨bE, 2, none⟩ = some (.int .i64 (t : Int)) ∧ w'.cell? ⟨gP, oP + f, none⟩ = some (.int .i64 pf) ∧ w'.cell? ⟨gP, oP + t, none⟩ = some (.int .i64 pt) ∧ w'.cell? ⟨w.heap.size, 0, none⟩ = some (.int .i64 (N : Int))) (st := 21) (by kernel_rfl) ?_;rw [← show wD = _ from hwD.out];have hS0 : (fun w' : World => w'.cell? ⟨bE, 0, none⟩ = some (.int .i64 (f : Int)) ∧ w'.cell? ⟨bE, 1, none⟩ = some (.int .i64 l) ∧ w'.cell? ⟨bE, 2, none⟩ = some (.int .i64 (t : Int)) ∧ w'.cell? ⟨gP, oP + f, none⟩ = some (.int .i64 pf) ∧ w'.cell? ⟨gP, oP + t, none⟩ = some (.int .i64 pt) ∧ w'.cell? ⟨w.heap.size, 0, none⟩ = some (.int .i64 (N : Int))) wD := hSS.out wD hbD.out;refine tkD 0 [3,4,21] hS0 ?_;refine tkD 1 [2,3,4,21] hS0 ?_;refine tkD 2 [3,4,21] hS0 ?_;refine lS 3 fun K hK => ?_
        (try go_simp)
        go_at_call 193
        (with_reducible refine qCt.out.mono ?_)
        rintro e w7 ⟨rfl, rfl⟩
        (try go_wp2_with fail)
        have hS1 := hSS.out wD hbD.out;refine kP hK (fun _ => hS1) ?_;clear hK K;refine tkD 4 [21] hS1 ?_;refine tkD 5 [6,7,8,20,21] hS1 ?_;refine tkD 6 [7,8,20,21] hS1 ?_;refine tkD 7 [8,20,21] hS1 ?_;refine tkD 8 [20,21] hS1 ?_;refine tkD 9 [12,13,19,20,21] hS1 ?_;refine tkD 10 [11,12,13,19,20,21] hS1 ?_;refine tkD 11 [12,13,19,20,21] hS1 ?_;refine tkD 12 [13,19,20,21] hS1 ?_;refine tkD 13 [19,20,21] hS1 ?_;refine tkD 14 [17,18,19,20,21] hS1 ?_;refine tkD 15 [16,17,18,19,20,21] hS1 ?_;refine tkD 16 [17,18,19,20,21] hS1 ?_;refine tkD 17 [18,19,20,21] hS1 ?_;refine tkD 18 [19,20,21] hS1 ?_;refine tkD 19 [20,21] hS1 ?_;refine tkD 20 [21] hS1 ?_;refine lS 21 fun K hK => ?_
        go_simp;refine kP hK nH ?_
        clear hK K;refine lateT_done (by kernel_rfl) ?_ _;have hstep : Hid (((es.take (j + 1)).filter (ofG p sk)).map (cdE N p) = ((es.take j).filter (ofG p sk)).map (cdE N p) ++ [l * (N : Int) + pt]) := by
         show _ = _
         rw [List.take_add_one, hx.out, List.filter_append, List.map_append]
         congr 1
         show List.map (cdE N p) (List.filter (ofG p sk) [((f : Int), l, (t : Int))]) = _
         rw [List.filter_cons_of_pos hyes.out]
         show [cdE N p ((f : Int), l, (t : Int))] = _
         unfold cdE;simp only [Int.toNat_natCast];rw [hpt.out]; rfl
        obtain ⟨wD2, hwD2⟩ : ∃ wD2, wD2 = wD.drew := ⟨_, rfl⟩;have hbD2 : Hid (Below wE.heap.size wE wD2) := by show Below _ _ _; rw [hwD2]; exact hbD.out.drew
        have hOD : Hid (Own 1 iv wD2 wO.heap.size 2 A12 n12 c12 (((es.take j).filter (ofG p sk)).map (cdE N p))) := by show Own _ _ _ _ _ _ _ _ _; rw [hwD2, hwD.out, hwE.out]; exact (hOf.out.alloc _).keep fun _ _ => rfl
        have hzD2 := hbD2.out.size;replace hwD2 := hide hwD2;have hlit := hide (Sl.lit1' (f := iv) wD2 2 (l * (N : Int) + pt) #[.int .i64 (l * (N : Int) + pt)] rfl 1 _ rfl);have hOL := hide (hOD.out.alloc (.cells #[.int .i64 (l * (N : Int) + pt)] 2));have hbL := hide (hbD2.out.alloc hzD2 (.cells #[.int .i64 (l * (N : Int) + pt)] 2));have hzE : wO.heap.size ≤ wE.heap.size := Nat.le_trans hzx hbE.out.size;have hza : wO.heap.size ≤ (wD2.alloc (.cells #[.int .i64 (l * (N : Int) + pt)] 2)).heap.size := by rw [World.size_alloc]; omega
        have hsz : (n12 + 1) * 8 ≤ 140737488355328 := by omega
        have hSG : Hid (∀ w6, (wD2.alloc (.cells #[.int .i64 (l * (N : Int) + pt)] 2)).grownBy w6 (Value.slice A12 n12 c12).ownBlock → w6.cell? ⟨bE, 0, none⟩ = some (.int .i64 (f : Int)) ∧ w6.cell? ⟨bE, 1, none⟩ = some (.int .i64 l) ∧ w6.cell? ⟨bE, 2, none⟩ = some (.int .i64 (t : Int)) ∧ w6.cell? ⟨gP, oP + f, none⟩ = some (.int .i64 pf) ∧ w6.cell? ⟨gP, oP + t, none⟩ = some (.int .i64 pt) ∧ w6.cell? ⟨w.heap.size, 0, none⟩ = some (.int .i64 (N : Int))) := fun w6 hg => by
         obtain ⟨a0, a1, a2, a3, a4, a5⟩ := hSS.out _ hbL.out;have hne : ∀ q, q < wO.heap.size → some q ≠ (Value.slice A12 n12 c12).ownBlock := fun q hq e => by
          have := (hOf.out.lt q e.symm).1;omega
         have hneE : some bE ≠ (Value.slice A12 n12 c12).ownBlock := fun e => by
          have := (hOf.out.lt bE e.symm).2;omega
         have zE : bE < (wD2.alloc (.cells #[.int .i64 (l * (N : Int) + pt)] 2)).heap.size := by rw [World.size_alloc]; omega
         exact ⟨grown_cell9 hg zE hneE a0, grown_cell9 hg zE hneE a1, grown_cell9 hg zE hneE a2, grown_cell9 hg (by rw [World.size_alloc]; omega) (hne gP (by omega)) a3, grown_cell9 hg (by rw [World.size_alloc]; omega) (hne gP (by omega)) a4, grown_cell9 hg (by rw [World.size_alloc]; omega) (hne _ (by omega)) a5⟩
        have hbW := hide (hbx.out.trans ((hbE.out.trans (hbL.out.mono hbE.out.size)).mono hzx));go_upto_region 12 with fail;refine lateT_begin (S := fun w' => w'.cell? ⟨bE, 0, none⟩ = some (.int .i64 (f : Int)) ∧ w'.cell? ⟨bE, 1, none⟩ = some (.int .i64 l) ∧ w'.cell? ⟨bE, 2, none⟩ = some (.int .i64 (t : Int)) ∧ w'.cell? ⟨gP, oP + f, none⟩ = some (.int .i64 pf) ∧ w'.cell? ⟨gP, oP + t, none⟩ = some (.int .i64 pt) ∧ w'.cell? ⟨w.heap.size, 0, none⟩ = some (.int .i64 (N : Int))) (st := 14) (by kernel_rfl) ?_;rw [← show wD2 = _ from hwD2.out];have hS0 : (fun w' : World => w'.cell? ⟨bE, 0, none⟩ = some (.int .i64 (f : Int)) ∧ w'.cell? ⟨bE, 1, none⟩ = some (.int .i64 l) ∧ w'.cell? ⟨bE, 2, none⟩ = some (.int .i64 (t : Int)) ∧ w'.cell? ⟨gP, oP + f, none⟩ = some (.int .i64 pf) ∧ w'.cell? ⟨gP, oP + t, none⟩ = some (.int .i64 pt) ∧ w'.cell? ⟨w.heap.size, 0, none⟩ = some (.int .i64 (N : Int))) wD2 := hSS.out wD2 hbD2.out;refine tkB 0 [14] hS0 ?_;refine tkB 1 [14] hS0 ?_;refine tkB 2 [14] hS0 ?_;refine tkB 3 [14] hS0 ?_;refine tkB 4 [14] hS0 ?_;refine tkB 5 [14] hS0 ?_;refine tkB 6 [14] hS0 ?_;refine tkB 7 [14] hS0 ?_;refine tkB 8 [14] hS0 ?_;refine tkB 9 [14] hS0 ?_;refine tkB 10 [14] hS0 ?_;refine tkB 11 [14] hS0 ?_;refine lS 12 fun K hK => ?_
        go_simp;refine kP hK (fun _ => hSS.out _ hbL.out) ?_
        clear hK K;refine lS 13 fun K hK => ?_
        refine step_appL (m := 1) (d := 1) (by rfl) (.tmp 58) (.tmp 70) (by rfl) hE.out flat_iv (by go_simp) hOL.out (by go_simp) hlit.out hsz hza ?_;intro A6 c6 w6 hown6 hgr6 hb6 hat6;have hc6 := hSG.out w6 hgr6;refine kP hK (fun _ => hc6) ?_;clear hK K;refine lS 14 fun K hK => ?_
        go_simp;refine kP hK nH ?_
        clear hK K;refine lateT_done (by kernel_rfl) ?_ _;rw [← hstep.out] at hown6;have hb6' := hide (hbW.out.trans hb6);go_wp2_with fail;go_roundw
        case rel => exact ⟨j + 1, n12 + 1, c6, A6, by omega, by go_num, rfl, by omega, hown6, hb6'.out⟩
        case measure => simp [intOf]; omega
      ·have g3 : (l != 0) = true := by rw [bne_iff_ne]; exact hl
       have hyes : Hid (ofG p sk ((f : Int), l, (t : Int)) = true) := by
        show _ = _
        have : inG p ((f : Int), l, (t : Int)) = false := Bool.eq_false_iff.2 fun h => hl (inG_true.1 h).1
        unfold ofG;rw [this]
        simp [hmem]
       replace hl := hide hl;replace ha := hide ha;replace hmem := hide hmem;refine lateT_begin (S := fun w' => w'.cell? ⟨bE, 0, none⟩ = some (.int .i64 (f : Int)) ∧ w'.cell? ⟨bE, 1, none⟩ = some (.int .i64 l) ∧ w'.cell? ⟨bE, 2, none⟩ = some (.int .i64 (t : Int)) ∧ w'.cell? ⟨gP, oP + f, none⟩ = some (.int .i64 pf) ∧ w'.cell? ⟨gP, oP + t, none⟩ = some (.int .i64 pt) ∧ w'.cell? ⟨w.heap.size, 0, none⟩ = some (.int .i64 (N : Int))) (st := 21) (by kernel_rfl) ?_;rw [← show wD = _ from hwD.out];have hS0 : (fun w' : World => w'.cell? ⟨bE, 0, none⟩ = some (.int .i64 (f : Int)) ∧ w'.cell? ⟨bE, 1, none⟩ = some (.int .i64 l) ∧ w'.cell? ⟨bE, 2, none⟩ = some (.int .i64 (t : Int)) ∧ w'.cell? ⟨gP, oP + f, none⟩ = some (.int .i64 pf) ∧ w'.cell? ⟨gP, oP + t, none⟩ = some (.int .i64 pt) ∧ w'.cell? ⟨w.heap.size, 0, none⟩ = some (.int .i64 (N : Int))) wD := hSS.out wD hbD.out;refine tkD 0 [3,4,21] hS0 ?_;refine tkD 1 [2,3,4,21] hS0 ?_;refine tkD 2 [3,4,21] hS0 ?_;refine lS 3 fun K hK => ?_
       (try go_simp)
       go_at_call 193
       (with_reducible refine qCt.out.mono ?_)
       rintro e w7 ⟨rfl, rfl⟩
       (try go_wp2_with fail)
       have hS1 := hSS.out wD hbD.out;refine kP hK (fun _ => hS1) ?_;clear hK K;refine tkD 4 [21] hS1 ?_;refine tkD 5 [6,7,8,20,21] hS1 ?_;refine tkD 6 [7,8,20,21] hS1 ?_;refine tkD 7 [8,20,21] hS1 ?_;refine tkD 8 [20,21] hS1 ?_;refine tkC 9 [12,13,19,20,21] hS1 ?_;refine tkC 10 [11,12,13,19,20,21] hS1 ?_;refine tkC 11 [12,13,19,20,21] hS1 ?_;refine tkC 12 [13,19,20,21] hS1 ?_;refine tkC 13 [19,20,21] hS1 ?_;refine tkC 14 [17,18,19,20,21] hS1 ?_;refine tkC 15 [16,17,18,19,20,21] hS1 ?_;refine tkC 16 [17,18,19,20,21] hS1 ?_;refine tkC 17 [18,19,20,21] hS1 ?_;refine tkC 18 [19,20,21] hS1 ?_;refine tkC 19 [20,21] hS1 ?_;refine tkD 20 [21] hS1 ?_;refine lS 21 fun K hK => ?_
       go_simp;refine kP hK nH ?_
       clear hK K;refine lateT_done (by kernel_rfl) ?_ _;have hstep : Hid (((es.take (j + 1)).filter (ofG p sk)).map (cdE N p) = ((es.take j).filter (ofG p sk)).map (cdE N p) ++ [l * (N : Int) + pt]) := by
        show _ = _
        rw [List.take_add_one, hx.out, List.filter_append, List.map_append]
        congr 1
        show List.map (cdE N p) (List.filter (ofG p sk) [((f : Int), l, (t : Int))]) = _
        rw [List.filter_cons_of_pos hyes.out]
        show [cdE N p ((f : Int), l, (t : Int))] = _
        unfold cdE;simp only [Int.toNat_natCast];rw [hpt.out]; rfl
       obtain ⟨wD2, hwD2⟩ : ∃ wD2, wD2 = wD.drew := ⟨_, rfl⟩;have hbD2 : Hid (Below wE.heap.size wE wD2) := by show Below _ _ _; rw [hwD2]; exact hbD.out.drew
       have hOD : Hid (Own 1 iv wD2 wO.heap.size 2 A12 n12 c12 (((es.take j).filter (ofG p sk)).map (cdE N p))) := by show Own _ _ _ _ _ _ _ _ _; rw [hwD2, hwD.out, hwE.out]; exact (hOf.out.alloc _).keep fun _ _ => rfl
       have hzD2 := hbD2.out.size;replace hwD2 := hide hwD2;have hlit := hide (Sl.lit1' (f := iv) wD2 2 (l * (N : Int) + pt) #[.int .i64 (l * (N : Int) + pt)] rfl 1 _ rfl);have hOL := hide (hOD.out.alloc (.cells #[.int .i64 (l * (N : Int) + pt)] 2));have hbL := hide (hbD2.out.alloc hzD2 (.cells #[.int .i64 (l * (N : Int) + pt)] 2));have hzE : wO.heap.size ≤ wE.heap.size := Nat.le_trans hzx hbE.out.size;have hza : wO.heap.size ≤ (wD2.alloc (.cells #[.int .i64 (l * (N : Int) + pt)] 2)).heap.size := by rw [World.size_alloc]; omega
       have hsz : (n12 + 1) * 8 ≤ 140737488355328 := by omega
       have hSG : Hid (∀ w6, (wD2.alloc (.cells #[.int .i64 (l * (N : Int) + pt)] 2)).grownBy w6 (Value.slice A12 n12 c12).ownBlock → w6.cell? ⟨bE, 0, none⟩ = some (.int .i64 (f : Int)) ∧ w6.cell? ⟨bE, 1, none⟩ = some (.int .i64 l) ∧ w6.cell? ⟨bE, 2, none⟩ = some (.int .i64 (t : Int)) ∧ w6.cell? ⟨gP, oP + f, none⟩ = some (.int .i64 pf) ∧ w6.cell? ⟨gP, oP + t, none⟩ = some (.int .i64 pt) ∧ w6.cell? ⟨w.heap.size, 0, none⟩ = some (.int .i64 (N : Int))) := fun w6 hg => by
        obtain ⟨a0, a1, a2, a3, a4, a5⟩ := hSS.out _ hbL.out;have hne : ∀ q, q < wO.heap.size → some q ≠ (Value.slice A12 n12 c12).ownBlock := fun q hq e => by
         have := (hOf.out.lt q e.symm).1;omega
        have hneE : some bE ≠ (Value.slice A12 n12 c12).ownBlock := fun e => by
         have := (hOf.out.lt bE e.symm).2;omega
        have zE : bE < (wD2.alloc (.cells #[.int .i64 (l * (N : Int) + pt)] 2)).heap.size := by rw [World.size_alloc]; omega
        exact ⟨grown_cell9 hg zE hneE a0, grown_cell9 hg zE hneE a1, grown_cell9 hg zE hneE a2, grown_cell9 hg (by rw [World.size_alloc]; omega) (hne gP (by omega)) a3, grown_cell9 hg (by rw [World.size_alloc]; omega) (hne gP (by omega)) a4, grown_cell9 hg (by rw [World.size_alloc]; omega) (hne _ (by omega)) a5⟩
       have hbW := hide (hbx.out.trans ((hbE.out.trans (hbL.out.mono hbE.out.size)).mono hzx));go_upto_region 12 with fail;refine lateT_begin (S := fun w' => w'.cell? ⟨bE, 0, none⟩ = some (.int .i64 (f : Int)) ∧ w'.cell? ⟨bE, 1, none⟩ = some (.int .i64 l) ∧ w'.cell? ⟨bE, 2, none⟩ = some (.int .i64 (t : Int)) ∧ w'.cell? ⟨gP, oP + f, none⟩ = some (.int .i64 pf) ∧ w'.cell? ⟨gP, oP + t, none⟩ = some (.int .i64 pt) ∧ w'.cell? ⟨w.heap.size, 0, none⟩ = some (.int .i64 (N : Int))) (st := 14) (by kernel_rfl) ?_;rw [← show wD2 = _ from hwD2.out];have hS0 : (fun w' : World => w'.cell? ⟨bE, 0, none⟩ = some (.int .i64 (f : Int)) ∧ w'.cell? ⟨bE, 1, none⟩ = some (.int .i64 l) ∧ w'.cell? ⟨bE, 2, none⟩ = some (.int .i64 (t : Int)) ∧ w'.cell? ⟨gP, oP + f, none⟩ = some (.int .i64 pf) ∧ w'.cell? ⟨gP, oP + t, none⟩ = some (.int .i64 pt) ∧ w'.cell? ⟨w.heap.size, 0, none⟩ = some (.int .i64 (N : Int))) wD2 := hSS.out wD2 hbD2.out;refine tkB 0 [14] hS0 ?_;refine tkB 1 [14] hS0 ?_;refine tkB 2 [14] hS0 ?_;refine tkB 3 [14] hS0 ?_;refine tkB 4 [14] hS0 ?_;refine tkB 5 [14] hS0 ?_;refine tkB 6 [14] hS0 ?_;refine tkB 7 [14] hS0 ?_;refine tkB 8 [14] hS0 ?_;refine tkB 9 [14] hS0 ?_;refine tkB 10 [14] hS0 ?_;refine tkB 11 [14] hS0 ?_;refine lS 12 fun K hK => ?_
       go_simp;refine kP hK (fun _ => hSS.out _ hbL.out) ?_
       clear hK K;refine lS 13 fun K hK => ?_
       refine step_appL (m := 1) (d := 1) (by rfl) (.tmp 58) (.tmp 70) (by rfl) hE.out flat_iv (by go_simp) hOL.out (by go_simp) hlit.out hsz hza ?_;intro A6 c6 w6 hown6 hgr6 hb6 hat6;have hc6 := hSG.out w6 hgr6;refine kP hK (fun _ => hc6) ?_;clear hK K;refine lS 14 fun K hK => ?_
       go_simp;refine kP hK nH ?_
       clear hK K;refine lateT_done (by kernel_rfl) ?_ _;rw [← hstep.out] at hown6;have hb6' := hide (hbW.out.trans hb6);go_wp2_with fail;go_roundw
       case rel => exact ⟨j + 1, n12 + 1, c6, A6, by omega, by go_num, rfl, by omega, hown6, hb6'.out⟩
       case measure => simp [intOf]; omega
     ·have ha : (sk.any fun x => decide (x = (f : Int))) = false := Bool.eq_false_iff.2 fun h => by
       obtain ⟨x, h1, h2⟩ := List.any_eq_true.1 h;exact hmem (of_decide_eq_true h2 ▸ h1)
      rw [ha] at qCt;replace qCt := hide qCt;have hno : Hid (ofG p sk ((f : Int), l, (t : Int)) = false) := by
       show _ = _
       unfold ofG
       simp [hmem]
      replace ha := hide ha;replace hmem := hide hmem;refine lateT_begin (S := fun w' => w'.cell? ⟨bE, 0, none⟩ = some (.int .i64 (f : Int)) ∧ w'.cell? ⟨bE, 1, none⟩ = some (.int .i64 l) ∧ w'.cell? ⟨bE, 2, none⟩ = some (.int .i64 (t : Int)) ∧ w'.cell? ⟨gP, oP + f, none⟩ = some (.int .i64 pf) ∧ w'.cell? ⟨gP, oP + t, none⟩ = some (.int .i64 pt) ∧ w'.cell? ⟨w.heap.size, 0, none⟩ = some (.int .i64 (N : Int))) (st := 21) (by kernel_rfl) ?_;rw [← show wD = _ from hwD.out];have hS0 : (fun w' : World => w'.cell? ⟨bE, 0, none⟩ = some (.int .i64 (f : Int)) ∧ w'.cell? ⟨bE, 1, none⟩ = some (.int .i64 l) ∧ w'.cell? ⟨bE, 2, none⟩ = some (.int .i64 (t : Int)) ∧ w'.cell? ⟨gP, oP + f, none⟩ = some (.int .i64 pf) ∧ w'.cell? ⟨gP, oP + t, none⟩ = some (.int .i64 pt) ∧ w'.cell? ⟨w.heap.size, 0, none⟩ = some (.int .i64 (N : Int))) wD := hSS.out wD hbD.out;refine tkD 0 [3,4,21] hS0 ?_;refine tkD 1 [2,3,4,21] hS0 ?_;refine tkD 2 [3,4,21] hS0 ?_;refine lS 3 fun K hK => ?_
      (try go_simp)
      go_at_call 193
      (with_reducible refine qCt.out.mono ?_)
      rintro e w7 ⟨rfl, rfl⟩
      (try go_wp2_with fail)
      have hS1 := hSS.out wD hbD.out;refine kP hK (fun _ => hS1) ?_;clear hK K;refine tkD 4 [21] hS1 ?_;refine tkC 5 [6,7,8,20,21] hS1 ?_;refine tkC 6 [7,8,20,21] hS1 ?_;refine tkC 7 [8,20,21] hS1 ?_;refine tkC 8 [20,21] hS1 ?_;refine tkC 9 [12,13,19,20,21] hS1 ?_;refine tkC 10 [11,12,13,19,20,21] hS1 ?_;refine tkC 11 [12,13,19,20,21] hS1 ?_;refine tkC 12 [13,19,20,21] hS1 ?_;refine tkC 13 [19,20,21] hS1 ?_;refine tkC 14 [17,18,19,20,21] hS1 ?_;refine tkC 15 [16,17,18,19,20,21] hS1 ?_;refine tkC 16 [17,18,19,20,21] hS1 ?_;refine tkC 17 [18,19,20,21] hS1 ?_;refine tkC 18 [19,20,21] hS1 ?_;refine tkC 19 [20,21] hS1 ?_;refine tkC 20 [21] hS1 ?_;refine lS 21 fun K hK => ?_
      go_simp;refine kP hK nH ?_
      clear hK K;refine lateT_done (by kernel_rfl) ?_ _;have hstep : Hid (((es.take (j + 1)).filter (ofG p sk)).map (cdE N p) = ((es.take j).filter (ofG p sk)).map (cdE N p)) := by
       show _ = _
       rw [List.take_add_one, hx.out, List.filter_append, List.map_append]
       show _ ++ List.map (cdE N p) (List.filter (ofG p sk) [((f : Int), l, (t : Int))]) = _
       rw [List.filter_cons_of_neg (by rw [hno.out]; decide)]
       simp
      have hOk : Hid (Own 1 iv wD wO.heap.size 2 A12 n12 c12 (((es.take (j + 1)).filter (ofG p sk)).map (cdE N p))) := by show Own _ _ _ _ _ _ _ _ _; rw [hstep.out, hwD.out, hwE.out]; exact (hOf.out.alloc _).keep fun _ _ => rfl
      have hbW := hide (hbx.out.trans ((hbE.out.trans (hbD.out.mono hbE.out.size)).mono hzx));go_wp2_with fail;go_roundw
      case rel => exact ⟨j + 1, n12, c12, A12, by omega, by go_num, rfl, by omega, hOk.out, hbW.out⟩
      case measure => simp [intOf]; omega
    ·obtain rfl : j = m := by omega
     have htk : es.take j = es := List.take_of_length_le (by omega);have hO12 := hOf.out;rw [htk, hoff.out] at hO12;have hO12l := hide hO12.len;have hlb : (offL es N p k).length = n12 := hO12.len;replace hlb := hide hlb;have hn300 : n12 ≤ 300 := by omega
     have qS := hide (sortI_calls hO12 (by omega));have hrowS := hide (fun q (e : (Value.slice A12 n12 c12).ownBlock = some q) => (hO12.lt q e).1);have i1 : ¬ (j : Int) < (j : Int) := by omega
     have hG := hG;clear hO12;go_upto_region 14 with fail;go_wp2_with fail;refine qS.out.mono ?_;rintro e w6 ⟨rfl, hO6, hg6⟩;have hb6 := hbx.out.trans (below_grown hg6 hzx hrowS.out);obtain ⟨wF, hwF⟩ : ∃ wF, wF = w6.drew := ⟨_, rfl⟩;have hbF : Hid (Below wO.heap.size wO wF) := by show Below _ _ _; rw [hwF]; exact hb6.drew
     have hOF : Hid (Own 1 iv wF wO.heap.size 2 A12 n12 c12 (sortI (offL es N p k))) := by show Own _ _ _ _ _ _ _ _ _; rw [hwF]; exact hO6.keep fun _ _ => rfl
     have hzF := hbF.out.size;obtain ⟨gP, oP, pk, rfl, -, -, hgP0, hpk, cpk, -⟩ := SlI.get hPB.out hlt;obtain ⟨gD, oD, rfl, -, -, hgD0, -, cdk, -⟩ := SlB.get hD5.out hlt;obtain ⟨dk, hdk⟩ : ∃ dk, dk = inS (dvgL (es.filter (inG p)) N) k := ⟨_, rfl⟩;rw [← hdk] at cdk;have hS15 : Hid (∀ wx, Below wO.heap.size wO wx → wx.cell? ⟨gP, oP + k, none⟩ = some (.int .i64 pk) ∧ wx.cell? ⟨gD, oD + k, none⟩ = some (.bool dk)) := fun wx hy => by
      have h1 := hbO.out.trans (hy.mono hzO');exact ⟨(h1.cell (p := ⟨gP, oP + k, none⟩) hgP0).trans cpk, (h1.cell (p := ⟨gD, oD + k, none⟩) hgD0).trans cdk⟩
     have hdv : Hid (dvgI es dv p k = if (dv && dk) = true then 1 else 0) := by show _ = _; rw [dvgI_eq hed.out hlt, hdk]
     replace hdk := hide hdk;replace hpk := hide hpk;replace hwF := hide hwF;replace hO6 := hide hO6;replace hg6 := hide hg6;replace hb6 := hide hb6;clear qS cpk cdk
     cases dv with
     | true =>
      have qT := hide (truth_calls dk wF);obtain ⟨tv, htv0⟩ : ∃ tv : Int, tv = if dk then 1 else 0 := ⟨_, rfl⟩;rw [← htv0] at qT;have htv : Hid (tv = dvgI es true p k) := by show _ = _; rw [hdv.out, htv0]; cases dk <;> rfl
      replace htv0 := hide htv0;go_upto_region 15 with fail;refine lateT_begin (S := fun w' => w'.cell? ⟨gP, oP + k, none⟩ = some (.int .i64 pk) ∧ w'.cell? ⟨gD, oD + k, none⟩ = some (.bool dk)) (st := 13) (by kernel_rfl) ?_;rw [← show wF = _ from hwF.out];have hS0 : (fun w' : World => w'.cell? ⟨gP, oP + k, none⟩ = some (.int .i64 pk) ∧ w'.cell? ⟨gD, oD + k, none⟩ = some (.bool dk)) wF := hS15.out wF hbF.out;refine tkD 0 [13] hS0 ?_;refine tkD 1 [13] hS0 ?_;refine tkD 2 [13] hS0 ?_;refine tkD 3 [13] hS0 ?_;refine tkD 4 [13] hS0 ?_;refine tkD 5 [13] hS0 ?_;refine tkD 6 [13] hS0 ?_;refine tkD 7 [13] hS0 ?_;refine tkD 8 [13] hS0 ?_;refine tkD 9 [13] hS0 ?_;refine tkD 10 [13] hS0 ?_;refine lS 11 fun K hK => ?_
      (try go_simp)
      go_at_call 202
      (with_reducible refine qT.out.mono ?_)
      rintro e w7 ⟨rfl, rfl⟩
      (try go_wp2_with fail)
      have hS1 := hS15.out wF hbF.out;refine kP hK (fun _ => hS1) ?_;clear hK K;refine lS 12 fun K hK => ?_
      go_simp;have hS2 := hS15.out _ (hbF.out.alloc hzF (.cells #[.int .i64 pk, .int .i64 tv] 2))
      refine kP hK (fun _ => hS2) ?_;clear hK K;refine lS 13 fun K hK => ?_
      go_simp;refine kP hK nH ?_
      clear hK K;refine lateT_done (by kernel_rfl) ?_ _;have hkey : Hid (Own 1 iv (wF.alloc (.cells #[.int .i64 pk, .int .i64 tv] 2)) wO.heap.size 2 (some ⟨wF.heap.size, 0, none⟩) 2 2 [pk, tv]) :=
       ⟨rfl, by simp [iv], .inr ⟨wF.heap.size, 2, #[.int .i64 pk, .int .i64 tv], rfl, hzF, heap_alloc_new wF _, zR, by decide, rfl, rfl⟩⟩
      have hO8 := hide (hOF.out.alloc (.cells #[.int .i64 pk, .int .i64 tv] 2));have hb8 := hide (hbF.out.alloc hzF (.cells #[.int .i64 pk, .int .i64 tv] 2));have hz8 := hb8.out.size;have hnk : Hid (some wF.heap.size ≠ (Value.slice A12 n12 c12).ownBlock) := fun e => by
       have := (hOF.out.lt _ e.symm).2;omega
      have qC := hide (compactI_calls hO8.out (by omega));go_wp2_with fail;refine qC.out.mono ?_;rintro e w8 ⟨rfl, hO9, hg8⟩;have hrow8 := hide (fun q (e : (Value.slice A12 n12 c12).ownBlock = some q) => (hO8.out.lt q e).1);have hb9 := hide (hb8.out.trans (below_grown hg8 hz8 hrow8.out));have hkey8 := hide (hkey.out.kept hg8 (.inr fun e => hnk.out e));have hcs := hide (hO9.sl flat_iv);have hz9 := hb9.out.size;have hcl := compact_len (sortI (offL es N p k));rw [sortI_len] at hcl;have hlen12 := hO12l.out;have hsz1 : (2 + (Lib.compact (sortI (offL es N p k))).length) * 8 ≤ 140737488355328 := by omega
      obtain ⟨nz, hnz⟩ : ∃ nz, nz = (Lib.compact (sortI (offL es N p k))).length := ⟨_, rfl⟩;rw [← hnz] at hsz1;replace hnz := hide hnz;have hcs2 : Hid (SlI w8 wO.heap.size w8.heap.size A12 nz (Lib.compact (sortI (offL es N p k)))) := by show Sl _ _ _ _ _ _ _ _; rw [hnz.out]; exact hcs.out
      have hnz3 : nz ≤ 300 := by rw [hnz.out]; omega
      replace hO9 := hide hO9;replace hg8 := hide hg8;clear hcs qC hkey hO8 hcl;rw [← show nz = _ from hnz.out];have hszK : (k + 1) * 24 ≤ 140737488355328 := by omega
      have hzB : wB.heap.size ≤ wO.heap.size := hbO.out.size;go_wp2_with (first | (at_builtin; (with_reducible refine wpList_app rfl (.tmp 89) (.tmp 91) rfl hE.out flat_iv rfl hkey8.out rfl hcs2.out hsz1 hz9 ?_); intro A6 c6 w9 hown9 hgr9 hb10 hat9; have hb11 := hide (hb9.out.trans hb10); have hz11 := hb11.out.size; have hbB := hide (hb11.out.alloc hz11 (.cells #[.slice A6 (2 + nz) c6] 32)); have hGA := hide (hG.out.below hbB.out); have hOa := hide hGA.out.own; have hzaK : wB.heap.size ≤ (w9.alloc (.cells #[.slice A6 (2 + nz) c6] 32)).heap.size := by (rw [World.size_alloc]; omega)) | (at_builtin; (with_reducible refine wpList_app rfl (.tmp 88) (.tmp 93) rfl hER.out flat_sv rfl hOa.out rfl (Sl.lit1' w9 32 ((A6, 2 + nz, c6) : Hd) _ rfl 1 _ ?c0) hszK hzaK ?_); rotate_right; intro A13 c13 w13 hown13 hgr13 hb13 hat13))
      case c0 => rfl
      have hsl9 := hide (hown9.sl flat_iv);have hsA : Hid (SlI (w9.alloc (.cells #[.slice A6 (2 + nz) c6] 32)) wB.heap.size (w9.alloc (.cells #[.slice A6 (2 + nz) c6] 32)).heap.size A6 (2 + nz) ([pk, tv] ++ Lib.compact (sortI (offL es N p k)))) := by
       have hba : Below w9.heap.size w9 (w9.alloc (.cells #[.slice A6 (2 + nz) c6] 32)) := bR.alloc zR _;exact (hsl9.out.below hba (.inr zR)).more hzB hba.size
      have hown : Hid (∀ b off, 0 < 2 + nz → A6 = some ⟨b, off, none⟩ → (Value.slice A9 k c9).ownBlock ≠ some b) := fun b off hn e e2 => by
       obtain ⟨b', o', e', g1, -⟩ := hsl9.out.at_ hn;rw [e] at e'
       cases e'
       have := (hG.out.own.lt _ e2).2;omega
      have hG6 := hide (hGA.out.push hsA.out hown.out hown13 hgr13 hat13);have hkv : Hid ([pk, tv] ++ Lib.compact (sortI (offL es N p k)) = keyB es N true p k) := by
       show _ = _
       unfold keyB;rw [hpk.out, htv.out]; rfl
      have hR6 := hide (hRs.out.push (x := (A6, 2 + nz, c6)) hkv.out (by show 2 + nz ≤ 1000; omega));have hbZ := hide (hbO.out.trans (hbB.out.mono hzB |>.trans hb13));go_wp2_with fail;go_roundw
      case rel => exact ⟨k + 1, c13, A13, _, by omega, by go_num, rfl, hG6.out, hR6.out, hbZ.out⟩
      case measure => simp [intOf]; omega
     | false =>
      have qT := truth_calls false wF;obtain ⟨tv, htv0⟩ : ∃ tv : Int, tv = if false then 1 else 0 := ⟨_, rfl⟩;rw [← htv0] at qT;replace qT := hide qT;have htv : Hid (tv = dvgI es false p k) := by show _ = _; rw [hdv.out, htv0]; rfl
      replace htv0 := hide htv0;go_upto_region 15 with fail;refine lateT_begin (S := fun w' => w'.cell? ⟨gP, oP + k, none⟩ = some (.int .i64 pk) ∧ w'.cell? ⟨gD, oD + k, none⟩ = some (.bool dk)) (st := 13) (by kernel_rfl) ?_;rw [← show wF = _ from hwF.out];have hS0 : (fun w' : World => w'.cell? ⟨gP, oP + k, none⟩ = some (.int .i64 pk) ∧ w'.cell? ⟨gD, oD + k, none⟩ = some (.bool dk)) wF := hS15.out wF hbF.out;refine tkD 0 [13] hS0 ?_;refine tkD 1 [13] hS0 ?_;refine tkD 2 [13] hS0 ?_;refine tkD 3 [13] hS0 ?_;refine tkD 4 [13] hS0 ?_;refine tkD 5 [13] hS0 ?_;refine tkC 6 [13] hS0 ?_;refine tkC 7 [13] hS0 ?_;refine tkC 8 [13] hS0 ?_;refine tkC 9 [13] hS0 ?_;refine tkD 10 [13] hS0 ?_;refine lS 11 fun K hK => ?_
      (try go_simp)
      go_at_call 202
      (with_reducible refine qT.out.mono ?_)
      rintro e w7 ⟨rfl, rfl⟩
      (try go_wp2_with fail)
      have hS1 := hS15.out wF hbF.out;refine kP hK (fun _ => hS1) ?_;clear hK K;refine lS 12 fun K hK => ?_
      go_simp;have hS2 := hS15.out _ (hbF.out.alloc hzF (.cells #[.int .i64 pk, .int .i64 tv] 2))
      refine kP hK (fun _ => hS2) ?_;clear hK K;refine lS 13 fun K hK => ?_
      go_simp;refine kP hK nH ?_
      clear hK K;refine lateT_done (by kernel_rfl) ?_ _;have hkey : Hid (Own 1 iv (wF.alloc (.cells #[.int .i64 pk, .int .i64 tv] 2)) wO.heap.size 2 (some ⟨wF.heap.size, 0, none⟩) 2 2 [pk, tv]) :=
       ⟨rfl, by simp [iv], .inr ⟨wF.heap.size, 2, #[.int .i64 pk, .int .i64 tv], rfl, hzF, heap_alloc_new wF _, zR, by decide, rfl, rfl⟩⟩
      have hO8 := hide (hOF.out.alloc (.cells #[.int .i64 pk, .int .i64 tv] 2));have hb8 := hide (hbF.out.alloc hzF (.cells #[.int .i64 pk, .int .i64 tv] 2));have hz8 := hb8.out.size;have hnk : Hid (some wF.heap.size ≠ (Value.slice A12 n12 c12).ownBlock) := fun e => by
       have := (hOF.out.lt _ e.symm).2;omega
      have qC := hide (compactI_calls hO8.out (by omega));go_wp2_with fail;refine qC.out.mono ?_;rintro e w8 ⟨rfl, hO9, hg8⟩;have hrow8 := hide (fun q (e : (Value.slice A12 n12 c12).ownBlock = some q) => (hO8.out.lt q e).1);have hb9 := hide (hb8.out.trans (below_grown hg8 hz8 hrow8.out));have hkey8 := hide (hkey.out.kept hg8 (.inr fun e => hnk.out e));have hcs := hide (hO9.sl flat_iv);have hz9 := hb9.out.size;have hcl := compact_len (sortI (offL es N p k));rw [sortI_len] at hcl;have hlen12 := hO12l.out;have hsz1 : (2 + (Lib.compact (sortI (offL es N p k))).length) * 8 ≤ 140737488355328 := by omega
      obtain ⟨nz, hnz⟩ : ∃ nz, nz = (Lib.compact (sortI (offL es N p k))).length := ⟨_, rfl⟩;rw [← hnz] at hsz1;replace hnz := hide hnz;have hcs2 : Hid (SlI w8 wO.heap.size w8.heap.size A12 nz (Lib.compact (sortI (offL es N p k)))) := by show Sl _ _ _ _ _ _ _ _; rw [hnz.out]; exact hcs.out
      have hnz3 : nz ≤ 300 := by rw [hnz.out]; omega
      replace hO9 := hide hO9;replace hg8 := hide hg8;clear hcs qC hkey hO8 hcl;rw [← show nz = _ from hnz.out];have hszK : (k + 1) * 24 ≤ 140737488355328 := by omega
      have hzB : wB.heap.size ≤ wO.heap.size := hbO.out.size;go_wp2_with (first | (at_builtin; (with_reducible refine wpList_app rfl (.tmp 89) (.tmp 91) rfl hE.out flat_iv rfl hkey8.out rfl hcs2.out hsz1 hz9 ?_); intro A6 c6 w9 hown9 hgr9 hb10 hat9; have hb11 := hide (hb9.out.trans hb10); have hz11 := hb11.out.size; have hbB := hide (hb11.out.alloc hz11 (.cells #[.slice A6 (2 + nz) c6] 32)); have hGA := hide (hG.out.below hbB.out); have hOa := hide hGA.out.own; have hzaK : wB.heap.size ≤ (w9.alloc (.cells #[.slice A6 (2 + nz) c6] 32)).heap.size := by (rw [World.size_alloc]; omega)) | (at_builtin; (with_reducible refine wpList_app rfl (.tmp 88) (.tmp 93) rfl hER.out flat_sv rfl hOa.out rfl (Sl.lit1' w9 32 ((A6, 2 + nz, c6) : Hd) _ rfl 1 _ ?c0) hszK hzaK ?_); rotate_right; intro A13 c13 w13 hown13 hgr13 hb13 hat13))
      case c0 => rfl
      have hsl9 := hide (hown9.sl flat_iv);have hsA : Hid (SlI (w9.alloc (.cells #[.slice A6 (2 + nz) c6] 32)) wB.heap.size (w9.alloc (.cells #[.slice A6 (2 + nz) c6] 32)).heap.size A6 (2 + nz) ([pk, tv] ++ Lib.compact (sortI (offL es N p k)))) := by
       have hba : Below w9.heap.size w9 (w9.alloc (.cells #[.slice A6 (2 + nz) c6] 32)) := bR.alloc zR _;exact (hsl9.out.below hba (.inr zR)).more hzB hba.size
      have hown : Hid (∀ b off, 0 < 2 + nz → A6 = some ⟨b, off, none⟩ → (Value.slice A9 k c9).ownBlock ≠ some b) := fun b off hn e e2 => by
       obtain ⟨b', o', e', g1, -⟩ := hsl9.out.at_ hn;rw [e] at e'
       cases e'
       have := (hG.out.own.lt _ e2).2;omega
      have hG6 := hide (hGA.out.push hsA.out hown.out hown13 hgr13 hat13);have hkv : Hid ([pk, tv] ++ Lib.compact (sortI (offL es N p k)) = keyB es N false p k) := by
       show _ = _
       unfold keyB;rw [hpk.out, htv.out]; rfl
      have hR6 := hide (hRs.out.push (x := (A6, 2 + nz, c6)) hkv.out (by show 2 + nz ≤ 1000; omega));have hbZ := hide (hbO.out.trans (hbB.out.mono hzB |>.trans hb13));go_wp2_with fail;go_roundw
      case rel => exact ⟨k + 1, c13, A13, _, by omega, by go_num, rfl, hG6.out, hR6.out, hbZ.out⟩
      case measure => simp [intOf]; omega
  ·obtain rfl : k = N := by omega
   have i1 : ¬ (k : Int) < (k : Int) := by omega
   have hcap := hG.out.own.le_cap;have qN := hide (normalKeys_calls A9 k c9 R wr _ _ (hG.out.rowsI fun r hr => by have := hRs.out.2 r hr; omega) (by omega) hcap);have hval : Hid (nkF (R.map (·.2)) = refB es k dv p) := by show _ = _; rw [hRs.out.1]; rfl
   have hzr := hb.out.size;have hbF := hide (hbel.out.trans (hb.out.mono hbel.out.size));go_wp2_with fail;refine qN.out.mono ?_;rintro e w6 ⟨Q, rfl, hQ, hb6⟩;rw [hval.out] at hQ;have hzF := hbF.out.size;have hQF := hide (hQ.more hzF zR);have hbG := hide (hbF.out.trans (hb6.mono hzF));clear hQ hb6 qN;go_wp2_with fail;go_ret;exact ⟨Q, rfl, hQF.out, hbG.out⟩
end Go.Proofs.YtnhomkmfbngmgaaGreatDoor
namespace Go.Proofs.YtnhomkmfbngmgaaGreatDoor
open Go.ChangeShapes Go.WideShapes Go.ChangeAt Go.RowKit
def NextOkG (g : List Int → List Int) (N : Nat) (F : FuncId) (caps : Array Value) (w : World) : Prop :=
 ∀ (k : Nat) (A : Option Addr) (c : Nat) (W : World) (lo hi : Nat), Below w.heap.size w W → SlI W lo hi A N (itP g N k) →
  Calls Tryz.prog F (#[.slice A N c] ++ caps) W fun e W' => ∃ B c', e = .returned (.slice B N c') ∧ SlI W' W.heap.size W'.heap.size B N (itP g N (k + 1)) ∧ Below W.heap.size W W' ∧ N ≤ c'
structure RouWG (w wr : World) (g : List Int → List Int) (N : Nat) (j : Nat) (A : Option Addr) (c : Nat) (R : List (HI × List Int)) : Prop where
 grow : GrowI wr w.heap.size N A (j + 1) c R
 vals : R.map (·.2) = (List.range (j + 1)).map (itP g N)
 new : ∀ m, m < j → itP g N (m + 1) ≠ itP g N m
 below : Below w.heap.size w wr
 caps : ∀ r, r ∈ R → N ≤ r.1.2
theorem roundsG_calls (g : List Int → List Int) (N : Nat) (hN1 : 1 ≤ N) (hN : N ≤ 40) (he : RefG g N) (F : FuncId) (caps : Array Value) (w : World) (hnext : NextOkG g N F caps w)
  (hF : ∀ (v : Value) (W : World), Sem.run Tryz.prog (callFunc F (#[v] ++ caps)) W = .ok (.enter F (#[v] ++ caps)) W) :
  Calls Tryz.prog 139 #[.int .i64 (N : Int), .func (.func F) #[] caps] w fun e w' => ∃ r A c R, e = .returned (.slice A (r + 1) c) ∧ LastG g N r ∧ RouWG w w' g N r A c R := by
 have hER := hide elem_rowI;have hS := hide (single_calls N (by omega) w);replace hnext := hide hnext;replace he := hide he;go_enter Tryz.func139, Tryz.ntmps139;go_wp2_with fail;refine hS.out.mono ?_;rintro e w3 ⟨rfl, hs3, hb3⟩;have hz3 := hb3.size;have hbl : Below w3.heap.size w3 (w3.alloc (.cells #[.slice (some ⟨w.heap.size, 0, none⟩) N N] 32)) := bR.alloc zR _;have hstart : Hid (RouWG w (w3.alloc (.cells #[.slice (some ⟨w.heap.size, 0, none⟩) N N] 32)) g N 0 (some ⟨w3.heap.size, 0, none⟩) 1 [((some ⟨w.heap.size, 0, none⟩, N), zeroP N)]) :=
  ⟨GrowI.one hs3 hz3, rfl, fun i hi => absurd hi (by omega), hb3.trans (hbl.mono hz3), fun r hr => by obtain rfl := List.mem_singleton.1 hr; exact zR⟩
 clear hS hs3 hbl;go_wp2_with fail
 go_loopw [5] (fun o wr => ∃ (j : Nat) (A : Option Addr) (c : Nat) (R : List (HI × List Int)), j + 1 ≤ N ∧ o = .slice A (j + 1) c ∧ Hid (RouWG w wr g N j A c R)) (fun o _ => N + 2 - lenV9 o)
 case atStart => exact ⟨0, _, _, _, hN1, rfl, hstart⟩
 case round =>
  clear hstart;obtain ⟨j, A, c, R, hj, rfl, hR⟩ := hrel;obtain ⟨bo, oo, Ah, ch, s, rfl, go1, go2, hrj, co, hsj, hoff⟩ := hR.out.grow.get (show j < j + 1 by omega);have hs : s = itP g N j := by
   have h1 : (R.map (·.2))[j]? = some s := by rw [List.getElem?_map, hrj]; rfl
   rw [hR.out.vals, List.getElem?_map, List.getElem?_range (by omega)] at h1;exact (Option.some.inj h1).symm
  subst hs;have hwr := hR.out.below;have qY := hide (hnext.out j Ah ch wr _ _ hwr hsj);have hzr := hwr.size;have hi1 : IntKind.i64.wrap (((j + 1 : Nat) : Int) - 1) = (j : Int) := by rw [IntWalk.i64_in _ (by omega)]; omega
  have hi2 : ((j + 1 : Nat) : Int) - 1 = (j : Int) := by omega
  have hj0 : (0 : Int) ≤ (j : Int) := by omega
  have hj1 : (j : Int) < ((j + 1 : Nat) : Int) := by omega
  replace hsj := hide hsj;clear hoff hwr;go_upto_region 3 with fail;go_wp2_with fail;refine qY.out.mono ?_;rintro e w4 ⟨A4, c4, rfl, hs4, hb4, hc4⟩;have hG4 := hide (hR.out.grow.below hb4);have hz4 := hb4.size;have hsj4 := hide (hsj.out.below hb4 (.inr zR));have qE := equalI_calls Ah A4 N N ch c4 _ _ w4 _ _ _ _ hsj4.out hs4 (by omega) (by omega);replace hs4 := hide hs4;replace hb4 := hide hb4;clear co qY hi1 hi2 hj0 hj1
  by_cases heq : itP g N j = itP g N (j + 1)
  ·rw [decide_eq_true heq] at qE
   replace qE := hide qE;replace heq := hide heq;go_wp2_with fail;refine qE.out.mono ?_;rintro e w5 ⟨rfl, hb5⟩;go_wp2_with fail;go_ret;exact ⟨j, _, _, R, rfl, ⟨heq.out.symm, hR.out.new⟩, ⟨hG4.out.below hb5, hR.out.vals, hR.out.new, hR.out.below.trans ((hb4.out.trans (hb5.mono hz4)).mono hzr), hR.out.caps⟩⟩
  ·rw [decide_eq_false heq] at qE
   replace qE := hide qE;have hnew : Hid (∀ m, m < j + 1 → itP g N (m + 1) ≠ itP g N m) := fun m hm => by
    by_cases e : m < j
    ·exact hR.out.new m e
    ·obtain rfl : m = j := by omega
     exact fun h => heq h.symm
   have hjN : j + 1 + 1 ≤ N := itP_bound he.out hN1 hnew.out;clear heq;go_wp2_with fail;refine qE.out.mono ?_;rintro e w5 ⟨rfl, hb5⟩;have hG5 := hide (hG4.out.below hb5);have hz5 := hb5.size;have hza : w.heap.size ≤ (w5.alloc (.cells #[.slice A4 N c4] 32)).heap.size := by rw [World.size_alloc]; omega
   have hOa := hide (hG5.out.own.alloc (.cells #[.slice A4 N c4] 32));replace hb5 := hide hb5;clear qE;go_wp2_with (first | (at_builtin; (with_reducible refine wpList_app rfl (.tmp 24) (.tmp 26) rfl hER.out (flat_hiV N) rfl hOa.out rfl (Sl.lit1' w5 32 ((A4, c4) : HI) _ rfl 1 _ ?c0) ?c1 hza ?_); rotate_right; intro A6 c6 w6 hown6 hgr6 hb6 hat6))
   case c0 => rfl
   case c1 => omega
   have hbA : Below w5.heap.size w5 (w5.alloc (.cells #[.slice A4 N c4] 32)) := bR.alloc zR _;have hb45 : Below w4.heap.size w4 (w5.alloc (.cells #[.slice A4 N c4] 32)) := hb5.out.trans (hbA.mono hz5);have hG6 := (hG5.out.below hbA).push ((hs4.out.below hb45 (.inr zR)).more hzr hb45.size) (fun b' off' hN0 e e2 => by
    obtain ⟨b2, o2, e3, g1, -⟩ := hs4.out.at_ hN0;rw [e] at e3;cases e3;have := (hR.out.grow.own.lt _ e2).2
    omega) hown6 hgr6 hat6
   have hBel : Below w.heap.size w w6 := hR.out.below.trans ((hb4.out.mono hzr).trans ((hb45.mono (by omega)).trans hb6));have hR6 : Hid (RouWG w w6 g N (j + 1) A6 c6 (R ++ [((A4, c4), itP g N (j + 1))])) :=
    ⟨hG6, by rw [List.map_append, hR.out.vals, List.range_succ (n := j + 1), List.map_append]; rfl, hnew.out, hBel, fun r hr => by
     rcases List.mem_append.1 hr with hr | hr
     ·exact hR.out.caps r hr
     ·obtain rfl := List.mem_singleton.1 hr; exact hc4⟩
   go_wp2_with fail;go_roundw
   case rel => exact ⟨j + 1, A6, c6, _, hjN, rfl, hR6⟩
   case measure => simp [lenV9]; omega
theorem r8Long_no (A B : Option Addr) (n m c d : Nat) (w : World) (hn : n ≤ 1048576) (hm : m ≤ 1048576) :
  Calls Tryz.prog 10 #[.slice A n c, .slice B m d] w fun e w' => e = .returned (.bool false) ∧ w = w' := by
 have h1 : ¬ (1048576 : Int) < (n : Int) := by omega
 have h2 : ¬ (1048576 : Int) < (m : Int) := by omega
 go_enter Tryz.func10, Tryz.ntmps10;go_wp2_with fail;go_ret;exact ⟨rfl, rfl⟩
theorem r8Long_yes (A B : Option Addr) (n m c d : Nat) (w : World) (h : 1048576 < n ∨ 1048576 < m) :
  Calls Tryz.prog 10 #[.slice A n c, .slice B m d] w fun e w' => e = .returned (.bool true) ∧ w = w' := by
 by_cases h1 : (1048576 : Int) < (n : Int)
 ·go_enter Tryz.func10, Tryz.ntmps10
  go_wp2_with fail;go_ret
  exact ⟨rfl, rfl⟩
 ·have h2 : (1048576 : Int) < (m : Int) := by omega
  go_enter Tryz.func10, Tryz.ntmps10;go_wp2_with fail;go_ret;exact ⟨rfl, rfl⟩
section
variable {w : World} {N ini : Nat} {A : Option Addr} {n : Nat} {B : Option Addr} {m : Nat} {ls : List ByteArray} {es : List Ed}
end
end Go.Proofs.YtnhomkmfbngmgaaGreatDoor
