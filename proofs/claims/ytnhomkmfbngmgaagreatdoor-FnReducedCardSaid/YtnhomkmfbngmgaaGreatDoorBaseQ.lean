/-
  Lemmas that the law of this claim leans on. Conditions: sizes.
-/
import Derived.Test.YtnhomkmfbngmgaaGreatDoorBaseC
import Derived.Test.YtnhomkmfbngmgaaGreatDoorBaseK
import Derived.Test.YtnhomkmfbngmgaaGreatDoorBaseL
import Derived.Test.YtnhomkmfbngmgaaGreatDoorBaseM
import Derived.Test.YtnhomkmfbngmgaaGreatDoorBaseN
import Derived.Test.YtnhomkmfbngmgaaGreatDoorBaseP
import Derived.Deep.DeepCutAuto
import Derived.Deep.RegionLaw
set_option maxHeartbeats 25600000
set_option maxRecDepth 100000
set_option linter.unusedSimpArgs false
set_option linter.unusedVariables false
namespace Go.Proofs.YtnhomkmfbngmgaaGreatDoor
open Go.ChangeShapes Go.WideShapes Go.ChangeAt Go.RowKit Go.Sort Go.Lib
structure FilQ (wb w : World) (g : Nat) (s i : Int) (A : Option Addr) (n c : Nat) (J : List ByteArray) : Prop where
 box : LtsBox w g s i A n c none 0 0
 lab : Own 1 strv w wb.heap.size 9 A n c J
 bel : Below wb.heap.size wb w
 ge : wb.heap.size ≤ g
 ne : some g ≠ (Value.slice A n c).ownBlock
theorem AlcW.fillQ {wb w1 : World} {J : List ByteArray} {A : Option Addr} {n c g : Nat} (h : AlcW wb w1 J (some g) (some (A, n, c))) (s i : Int) :
  FilQ wb ((((w1.setCell ⟨g, 0, none⟩ (.int .i64 s)).setCell ⟨g, 1, none⟩ (.int .i64 i)).setCell ⟨g, 2, none⟩ (.slice A n c)).setCell ⟨g, 3, none⟩ (.slice none 0 0)) g s i A n c J := by
 obtain ⟨hg, hx⟩ := h.box g rfl;obtain ⟨hl, hne⟩ := h.lab _ rfl;have hne := hne g rfl;have x0 : (w1.setCell ⟨g, 0, none⟩ (.int .i64 s)).heap[g]? = _ := heap_setCell_same w1 g 0 _ _ _ hx;have x1 := heap_setCell_same _ g 1 _ _ (.int .i64 i) x0;have x2 := heap_setCell_same _ g 2 _ _ (.slice A n c) x1;have x3 := heap_setCell_same _ g 3 _ _ (.slice none 0 0) x2;exact ⟨x3, (((hl.asideL hne _).asideL hne _).asideL hne _).asideL hne _, (((h.below.setCell (by show wb.heap.size ≤ g; exact hg) _).setCell (by show wb.heap.size ≤ g; exact hg) _).setCell (by show wb.heap.size ≤ g; exact hg) _).setCell (by show wb.heap.size ≤ g; exact hg) _, hg, hne⟩
theorem red1_calls (v : Int) (b : Nat) (P : Option Addr) (q cP : Nat) (S : List Int) (W : World) (lo hi : Nat) (hb : W.cell? ⟨b, 0, none⟩ = some (.slice P q cP)) (h : SlI W lo hi P q S) (hq : q ≤ 1000) (hn : S.Nodup) :
  Calls Tryz.prog 192 #[.int .i64 v, .pointer (some ⟨b, 0, none⟩)] W fun e w' => e = .returned (.int .i64 (posZ S v)) ∧ w' = W := by
 have hq1 := hide (indexX_calls v P q cP S W lo hi h (by omega));clear h;go_enter Tryz.func192, Tryz.ntmps192;go_wp2_with fail;refine hq1.out.mono ?_;rintro e w2 ⟨i, rfl, hi, rfl⟩;have hp := hide (hi.pos hn);clear hi hq1;go_wp2_with fail;go_ret;exact ⟨ret_i hp.out.symm, rfl⟩
structure RdcO (N ini : Nat) (es : List Ed) (S : List Int) (rep : Nat → Nat) (St : List Int) (er : List Ed) (S1 : List Int) (i0 i1 : Nat) : Prop where
 red : RedD N ini es rep St er
 rc : RepC (cS es S) rep
 dom : ∀ x, x < N → rep x < N
 out : ∀ x, ¬ x < N → rep x = x
 hi0 : i0 = St.idxOf ((rep ini : Nat) : Int)
 hS1 : S1 = reachF St.length er (i0 : Int)
 hi1 : S1[i1]? = some (i0 : Int)
theorem pv_rep {N : Nat} {rp : List Int} {x : Nat} {y : Int} (h : rp[x]? = some y) : pv rp (x : Int) = y := by unfold pv; rw [Int.toNat_natCast, h]; rfl
section
variable {w : World} {N ini : Nat} {A : Option Addr} {n c : Nat} {B : Option Addr} {m d : Nat} {ls : List ByteArray} {es : List Ed}
theorem reduceConfluent_calls (h : SysA w N ini A n B m ls es) (C : Option Addr) (q c2 : Nat) (S : List Int) (lo hi : Nat) (hS : SlI w lo hi C q S) (hq : q ≤ 1048576) (hT : TauS es S) (hC : ConfL es S) :
  Calls Tryz.prog 103 #[.agg #[.int .i64 (N : Int), .int .i64 (ini : Int), .slice A n c, .slice B m d], .slice C q c2] w fun e w' => ∃ (rep : Nat → Nat) (St : List Int) (er : List Ed) (S1 : List Int) (i0 i1 : Nat) (A2 : Option Addr) (cA : Nat) (A3 : Option Addr) (n3 cB : Nat),
   e = .returned (.agg #[.int .i64 (S1.length : Int), .int .i64 (i1 : Int), .slice A2 n cA, .slice A3 n3 cB]) ∧ SysA w' S1.length i1 A2 n A3 n3 ls (partF S1 er) ∧ RdcO N ini es S rep St er S1 i0 i1 ∧ n3 ≤ m ∧ Below w.heap.size w w' := by
 have hEi := hide elem_int;have hEe := hide elem_edge;have hmn := h.many;obtain ⟨⟨hN1, hN40⟩, hini⟩ := h.bounds;have hlen := h.se.len;have hed := hide h.edges;have hok := hide h.ok;have hsz := hide h.sz;have hconf := hide (hC.conf h.edges);obtain ⟨w1, hw1⟩ : ∃ w1, w1 = w.alloc (ltsC N ini A n c B m d) := ⟨_, rfl⟩;obtain ⟨w2, hw2⟩ : ∃ w2, w2 = w1.alloc (.cells #[.int .i64 0, .int .i64 0, .slice none 0 0, .slice none 0 0] 27) := ⟨_, rfl⟩;have hB := h.box (c := c) (d := d);rw [← hw1] at hB;have e1 : w1.heap.size = w.heap.size + 1 := by rw [hw1]; exact World.size_alloc _ _
 have e2 : w2.heap.size = w.heap.size + 1 + 1 := by rw [hw2, World.size_alloc, e1]
 have hb12 : Below w1.heap.size w1 w2 := by rw [hw2]; exact bR.alloc zR _
 have hB2 := hB.below hb12;have kR2 : LtsBox w2 (w.heap.size + 1) 0 0 none 0 0 none 0 0 := by
  have := heap_alloc_new w1 (.cells #[.int .i64 0, .int .i64 0, .slice none 0 0, .slice none 0 0] 27);rw [e1] at this;rw [hw2]; exact this
 have q1 := hide (representatives_calls (c := c) (d := d) hB2.sys C q c2 S _ _ (hS.below hB2.bel (.inr zR)) hq hT hC);have b0 := hB2.box.c0;have b1 := hB2.box.c1;have b2 := hB2.box.c2;have b3 := hB2.box.c3;have hB2h := hide hB2;have hb12h := hide hb12;have hBb := hide hB.bel;have hh := hide h;obtain ⟨z1a, z1b, z2a, z2b⟩ : w1.heap.size ≤ w.heap.size + 1 ∧ w.heap.size + 1 ≤ w1.heap.size ∧ w2.heap.size ≤ w.heap.size + 1 + 1 ∧ w.heap.size + 1 + 1 ≤ w2.heap.size := ⟨by omega, by omega, by omega, by omega⟩;have e1h := hide e1;have kR2h := hide kR2;clear hB hB2 hb12 h hS e1 e2 kR2;go_enter Tryz.func103, Tryz.ntmps103;go_upto_region 1 with fail;rw [show (w.alloc (.cells #[.int .i64 (N : Int), .int .i64 (ini : Int), .slice A n c, .slice B m d] 27)).alloc (.cells #[.int .i64 0, .int .i64 0, .slice none 0 0, .slice none 0 0] 27) = w2 by rw [hw2, hw1]];replace hw1 := hide hw1;replace hw2 := hide hw2;go_wp2_with fail;refine q1.out.mono ?_;rintro e w3 ⟨D, cD, rp, L, rfl, hrp, hRep, hb23⟩;have hone := hide (fun (x : Nat) (hx : x < N) => hRep.one hed.out hconf.out hx);have hrepC := hide (hRep.rep hed.out hconf.out);have hz23 := hb23.size;obtain ⟨w4, hw4⟩ : ∃ w4, w4 = w3.alloc (.cells #[.slice none 0 0] 32) := ⟨_, rfl⟩;have hb34 : Below w3.heap.size w3 w4 := by rw [hw4]; exact bR.alloc zR _
 have k4 : w4.heap[w3.heap.size]? = some (.cells #[.slice none 0 0] 32 (0, 0)) := by rw [hw4]; exact heap_alloc_new w3 _
 have k4l : w3.heap.size < w4.heap.size := (Array.getElem?_eq_some_iff.1 k4).1;have hb24 : Below w2.heap.size w2 w4 := hb23.trans (hb34.mono hz23);have hB4 := hB2h.out.below hb24;have q2 := hide (reachable_calls N ini (.slice A n c) B m d es w4 _ _ hB4.sys.se (by omega) hN1 hN40 hini ⟨_, _, _, rfl⟩ hB4.sys.ends);clear b0 b1 b2 b3 q1;have b0 := hB4.box.c0;have b1 := hB4.box.c1;have b2 := hB4.box.c2;have b3 := hB4.box.c3;have hrp4 := hide (hrp.below hb34 (.inr zR));have hb14 := hide (hb12h.out.trans (hb24.mono (by omega)));have kR4 := hide (kR2h.out.below hb24 (by omega));have k4h := hide k4;replace hB4 := hide hB4;clear hrp hRep hb23 hb34 hb24 k4;go_upto_region 3 with fail;rw [show w3.alloc (.cells #[.slice none 0 0] 32) = w4 from hw4.symm];replace hw4 := hide hw4;go_wp2_with fail;refine q2.out.mono ?_;rintro e w5 ⟨AR, mR, cR, rfl, hRl, hmR, -, hb45⟩;have hlR := hRl.len;have hz45 := hb45.size;have hV0 : Hid (VarS w1 w5 w5 w3.heap.size none 0 0 []) := VarS.begin (hb14.out.trans (hb45.mono (by have := hb14.out.size; omega))) (by omega) ((hb45.block _ k4l).trans k4h.out);have hFr : Hid (∀ {wx : World}, (∀ b, b < w5.heap.size → b ≠ w3.heap.size → wx.heap[b]? = w5.heap[b]?) → Below w1.heap.size w1 wx → w5.heap.size ≤ wx.heap.size → LtsBox wx w.heap.size (N : Int) (ini : Int) A n c B m d ∧ LtsBox wx (w.heap.size + 1) 0 0 none 0 0 none 0 0 ∧ SysA wx N ini A n B m ls es ∧ SlI wx w2.heap.size w3.heap.size D N rp ∧ SlI wx w4.heap.size w5.heap.size AR mR (reachF N es (ini : Int))) := fun {wx} ho hb hz =>
  ⟨(ho _ (by omega) (by omega)).trans (hB4.out.box.below hb45 (by omega)), (ho _ (by omega) (by omega)).trans (kR4.out.below hb45 (by omega)), hh.out.below (hBb.out.trans (hb.mono (by omega))) zR, (hrp4.out.below hb45 (.inl (by omega))).keep hz fun b h1 h2 h3 => ho b h3 (by omega), hRl.keep hz fun b h1 h2 h3 => ho b h3 (by omega)⟩
 replace hRl := hide hRl;replace hb45 := hide hb45;clear q2 b0 b1 b2 b3;go_wp2_with fail
 go_loopw [20] (fun v20 wr => ∃ (k c6 : Nat) (X : Option Addr), k ≤ mR ∧ v20 = .int .i64 (k : Int) ∧ Hid (VarS w1 w5 wr w3.heap.size X k c6 (((reachF N es (ini : Int)).take k).map (pv rp)))) (fun v _ => mR - (intOf v).toNat)
 case atStart => exact ⟨0, 0, none, Nat.zero_le _, rfl, hV0.out⟩
 case round =>
  obtain ⟨k, c6, X, hk, rfl, hV⟩ := hrel;clear hV0;obtain ⟨hBx, hRx, hSy, hPx, hRlx⟩ := hFr.out hV.out.oth hV.out.bel hV.out.size
  by_cases hlt : k < mR
  ·obtain ⟨gS, oS, v, rfl, -, -, -, hx, c0, -⟩ := SlI.get hRlx hlt
   obtain ⟨x, rfl, hxN, -⟩ := reach_mem.1 (List.mem_of_getElem? hx);obtain ⟨gP, oP, y, rfl, -, hgP, -, hy, p0, -⟩ := SlI.get hPx hxN;have hsu : Hid (((reachF N es (ini : Int)).take (k + 1)).map (pv rp) = ((reachF N es (ini : Int)).take k).map (pv rp) ++ [y]) := by
    show _ = _
    rw [List.take_add_one, hx, List.map_append]
    show _ ++ [pv rp (x : Int)] = _
    rw [pv_rep (N := N) hy]
   have hgl := hV.out.lt;have hzz := hV.out.size;have hvb := hide hV.out.box;have p0h := hide p0;have hSs : Hid (∀ wx, Below w5.heap.size wr wx → (fun w' : World => w'.cell? ⟨w3.heap.size, 0, none⟩ = some (.slice X k c6) ∧ w'.cell? ⟨gP, oP + x, none⟩ = some (.int .i64 y)) wx) := fun wx hb =>
    ⟨(cell_of_row _ _ 0 _ _ (0, 0) ((hb.block _ hgl).trans hvb.out)).trans rfl, (hb.cell (p := ⟨gP, oP + x, none⟩) (by show gP < _; omega)).trans p0h.out⟩
   have k0 : (0 : Int) ≤ (k : Int) := by omega
   have k1 : (k : Int) < (mR : Int) := by omega
   have x0 : (0 : Int) ≤ (x : Int) := by omega
   have x1 : (x : Int) < (N : Int) := by omega
   have hbD : Below w5.heap.size wr wr.drew := bR.drew;have hbA : Hid (Below w5.heap.size wr (wr.drew.alloc (.cells #[.int .i64 y] 2))) := hbD.alloc hzz _;have hOa := hide ((hV.out.own.below bR.drew zR).alloc (.cells #[.int .i64 y] 2));have hlit := hide (Sl.lit1' (f := iv) wr.drew 2 y #[.int .i64 y] rfl 1 _ rfl);have hza : w5.heap.size ≤ (wr.drew.alloc (.cells #[.int .i64 y] 2)).heap.size := Nat.le_trans hzz hbA.out.size;clear hSy hRlx hx hBx hRx hPx p0 hy;go_upto_region 6 with fail;clear c0;refine lateT_begin (S := fun w' => w'.cell? ⟨w3.heap.size, 0, none⟩ = some (.slice X k c6) ∧ w'.cell? ⟨gP, oP + x, none⟩ = some (.int .i64 y)) (st := 7) (by kernel_rfl) ?_;have hS0 := hSs.out wr.drew bR.drew;refine tkA _ 0 [7] rfl (Or.inl ⟨by kernel_rfl, by intro w9 hSw; obtain ⟨u0, u1⟩ := hSw; go_simp <;> with_reducible rfl⟩) hS0 ?_;refine tkA _ 1 [7] rfl (Or.inl ⟨by kernel_rfl, by intro w9 hSw; obtain ⟨u0, u1⟩ := hSw; go_simp <;> with_reducible rfl⟩) hS0 ?_;refine tkA _ 2 [7] rfl (Or.inl ⟨by kernel_rfl, by intro w9 hSw; obtain ⟨u0, u1⟩ := hSw; go_simp <;> with_reducible rfl⟩) hS0 ?_;refine tkA _ 3 [7] rfl (Or.inl ⟨by kernel_rfl, by intro w9 hSw; obtain ⟨u0, u1⟩ := hSw; go_simp <;> with_reducible rfl⟩) hS0 ?_;refine tkA _ 4 [7] rfl (Or.inl ⟨by kernel_rfl, by intro w9 hSw; obtain ⟨u0, u1⟩ := hSw; go_simp <;> with_reducible rfl⟩) hS0 ?_;refine lS 5 fun K hK => ?_
   go_simp;refine kP hK (fun _ => hSs.out _ hbA.out) ?_
   clear hK K;refine lS 6 fun K hK => ?_
   refine step_appL (m := 1) (d := 1) (by rfl) (.tmp 24) (.tmp 29) (by rfl) hEi.out flat_iv (by go_simp) hOa.out (by go_simp) hlit.out ?c1 hza ?_
   case c1 => omega
   intro A7 c7 w7 hown7 hgr7 hb7 _;have hb79 := hbA.out.trans hb7;have k7 := hV.out.mid hb79;have k7f := frozen_of_row _ _ 0 _ _ k7;have k7c := (cell_of_row _ _ 0 _ _ (0, 0) k7).trans (show _ = some (Value.slice X k c6) from rfl);have hV7 := hide (hV.out.store hb79 hown7);have hS9 := hide (hSs.out w7 hb79);clear hgr7 hb7 hown7 k7;refine kP hK (fun _ => hS9.out) ?_;clear hK K;refine lS 7 fun K hK => ?_
   go_simp;refine kP hK nH ?_
   clear hK K;refine lateT_done (by kernel_rfl) ?_ _;rw [← hsu.out] at hV7;go_wp2_with fail;go_roundw
   case rel => exact ⟨k + 1, c7, A7, by omega, by go_num, hV7.out⟩
   case measure => simp [intOf]; omega
  ·obtain rfl : k = mR := by omega
   have k1 : ¬ (k : Int) < (k : Int) := by omega
   have hall : (reachF N es (ini : Int)).take k = reachF N es (ini : Int) := List.take_of_length_le (by omega);rw [hall] at hV;obtain ⟨l, hl⟩ : ∃ l, l = (reachF N es (ini : Int)).map (pv rp) := ⟨_, rfl⟩;rw [← hl] at hV;have q3 := hide (sortedSet_calls X k c6 l wr _ _ (hV.out.own.sl flat_iv) (by omega));have v0 := hV.out.cell;have hz5r := hV.out.size;have hgl := hV.out.lt;clear hBx hRx hSy hPx hRlx;obtain ⟨wO, rfl⟩ : ∃ wO : World, wO = wr := ⟨_, rfl⟩;go_upto_region 8 with fail;go_wp2_with fail;refine q3.out.mono ?_;rintro e w6 ⟨X6, k6, c6, rfl, hO6, hn6, hb6⟩;have hV6 := hV.out.below hb6;have v6 := hV6.cell;have f6 := hV6.froz;have hz6 := hb6.size;have hl6 := hO6.len;have hR9 := hide (hV6.toR.store (c' := c6) ((hO6.sl flat_iv).more hz5r zR));obtain ⟨w9, hw9⟩ : ∃ w9, w9 = w6.setCell ⟨w3.heap.size, 0, none⟩ (.slice X6 k6 c6) := ⟨_, rfl⟩;rw [← hw9] at hR9
   -- the set of representatives
   obtain ⟨St, hSt⟩ : ∃ St, St = Lib.compact (sortI l) := ⟨_, rfl⟩;rw [← hSt] at hR9 hl6;have hup : St.Pairwise (· < ·) := by rw [hSt]; exact compact_asc (sortI_asc l)
   have hStn : St.Nodup := hup.imp fun h => by omega
   have hStm : ∀ v, v ∈ St ↔ ∃ k : Nat, (k : Int) ∈ reachF N es (ini : Int) ∧ v = ((repF N rp k : Nat) : Int) := fun v => by
    rw [hSt, set_mem, hl, List.mem_map]
    constructor
    ·rintro ⟨a, ha, rfl⟩
     obtain ⟨k, rfl, hkN, -⟩ := reach_mem.1 ha;exact ⟨k, ha, pv_rep (N := N) (hone.out k hkN).1⟩
    ·rintro ⟨k, hk, rfl⟩
     obtain ⟨k', e, hkN, -⟩ := reach_mem.1 hk;obtain rfl : k = k' := by omega
     exact ⟨_, hk, pv_rep (N := N) (hone.out k hkN).1⟩
   have hred := RedD.of hed.out hStn hStm (fun x hx => (hone.out x hx).1) hconf.out hrepC.out;have hdom : ∀ x, x < N → repF N rp x < N := fun x hx => (hone.out x hx).2.2.1
   have hout : ∀ x, ¬ x < N → repF N rp x = x := fun x hx => if_neg hx
   have hQ := hred.quoc hed.out hconf.out hrepC.out hdom hout rfl;have hfu := hred.full hed.out hini hconf.out hrepC.out;obtain ⟨yi, hyi⟩ : ∃ yi : Int, yi = ((repF N rp ini : Nat) : Int) := ⟨_, rfl⟩;obtain ⟨i0, hi0⟩ : ∃ i0, i0 = St.idxOf yi := ⟨_, rfl⟩;have hyS : yi ∈ St := by
    rw [hyi];exact (hStm _).2 ⟨ini, reach_ini hini, rfl⟩
   have hpz : posZ St yi = (i0 : Int) := by rw [hi0]; exact if_pos hyS
   have hi0l : i0 < St.length := by rw [hi0]; exact List.idxOf_lt_length_of_mem hyS
   have hk6 : St.length = k6 := hl6;have hk40 : k6 ≤ 40 := by have := hlR; have := reach_len (N := N) (es := es) (ini := (ini : Int)); omega
   have hrpi := (hone.out ini hini).1;rw [← hyi] at hrpi
   -- the system of the representatives is valid
   have herv : Hid (ltsV ((k6 : Int), (i0 : Int), ls, redF St rp es) = true) := by
    have hev := ltsV_edge hok.out;refine ltsV_of (by omega) (by omega) (ltsV_names hok.out).1 ?_ (compactE_rise (sortE_le _)) fun e hx => ?_
    ·unfold redF
     refine Nat.le_trans (Go.Lib.compact_length_le _) ?_;rw [sortE_len];exact Nat.le_trans (List.length_filterMap_le _ _) (by omega)
    ·have h1 := hQ.inm e hx
     obtain ⟨f, l', t⟩ := e;obtain ⟨a, b, hE, -⟩ := (hred.eds f l' t).1 hx;have h2 := (hev.1 _ hE).2.1;dsimp only at h1 h2 ⊢;omega
   have hredh := hide hred;have hStnh := hide hStn;have hhi : Hid (i0 = St.idxOf ((repF N rp ini : Nat) : Int)) := by show _ = _; rw [hi0, hyi]
   have hdomh := hide hdom;have houth := hide hout;have hfuh := hide hfu;have hFr9 := hide (hFr.out hR9.out.oth hR9.out.bel hR9.out.size);obtain ⟨gP, oP, yi', rfl, -, hgP, -, hy, p0, -⟩ := SlI.get hFr9.out.2.2.2.1 hini;rw [hrpi] at hy
   cases hy
   have hSS : Hid (∀ wx, Below w9.heap.size w9 wx → (fun w' : World => w'.cell? ⟨w3.heap.size, 0, none⟩ = some (.slice X6 k6 c6) ∧ w'.cell? ⟨w.heap.size, 1, none⟩ = some (.int .i64 (ini : Int)) ∧ w'.cell? ⟨w.heap.size, 2, none⟩ = some (.slice A n c) ∧ w'.cell? ⟨gP, oP + ini, none⟩ = some (.int .i64 yi)) wx) := fun wx hb => by
    have hRx := hR9.out.below hb;obtain ⟨y1, -⟩ := hFr.out hRx.oth hRx.bel hRx.size;exact ⟨hRx.cell, y1.c1, y1.c2, (hb.cell (p := ⟨gP, oP + ini, none⟩) (by show gP < _; have := hR9.out.size; omega)).trans p0⟩
   have hPos : Hid (∀ wx, Below w9.heap.size w9 wx → Calls Tryz.prog 192 #[.int .i64 yi, .pointer (some ⟨w3.heap.size, 0, none⟩)] wx fun e w' => e = .returned (.int .i64 (posZ St yi)) ∧ w' = wx) := fun wx hb => by
    have hRx := hR9.out.below hb;exact red1_calls _ _ _ _ _ _ _ _ _ hRx.cell hRx.sl (by omega) hStn
   have hCl : Hid (∀ wx, Below w9.heap.size w9 wx → Calls Tryz.prog 131 #[.slice A n c] wx fun e w' => ∃ A' c', e = .returned (.slice A' n c') ∧ Own 1 strv w' wx.heap.size 9 A' n c' ls ∧ Below wx.heap.size wx w') := fun wx hb => by
    have hRx := hR9.out.below hb;obtain ⟨-, -, y, -⟩ := hFr.out hRx.oth hRx.bel hRx.size;exact cloneS_calls _ _ _ _ _ _ _ y.ss (by omega)
   have i00 : (0 : Int) ≤ (ini : Int) := by omega
   have i01 : (ini : Int) < (N : Int) := by omega
   have hpzh := hide hpz;have hz5w9 := hide hR9.out.size;replace hfu := hide hfu;clear q3 v0 hred hStn hdom hout hfu hQ hup hSt hStm hl hV hV6 hO6 hrpi hyi hi0 hpz p0 hyS hb6 hl6 hn6 hall;go_upto_region 10 with fail;rw [show w6.setCell ⟨w3.heap.size, 0, none⟩ (.slice X6 k6 c6) = w9 from hw9.symm];replace hw9 := hide hw9;clear v6 f6
   go_cut [10] (fun v10 wx => ∃ g9 A1 c1, v10 = .pointer (some ⟨g9, 0, none⟩) ∧ Hid (FilQ w9 wx g9 (k6 : Int) (posZ St yi) A1 n c1 ls))
   case first =>
    refine lateT_begin (S := fun w' => w'.cell? ⟨w3.heap.size, 0, none⟩ = some (.slice X6 k6 c6) ∧ w'.cell? ⟨w.heap.size, 1, none⟩ = some (.int .i64 (ini : Int)) ∧ w'.cell? ⟨w.heap.size, 2, none⟩ = some (.slice A n c) ∧ w'.cell? ⟨gP, oP + ini, none⟩ = some (.int .i64 yi)) (st := 14) (by kernel_rfl) ?_;have hD := (AlcW.start w9 ls).drew;generalize w9.drew = wA at *;have hS0 := hSS.out _ hD.below;refine tkA _ 0 [14] rfl (Or.inl ⟨by rfl, by intro w9 hSw; obtain ⟨s0, s1, s2, s3⟩ := hSw; go_simp <;> with_reducible rfl⟩) hS0 ?_;refine tkA _ 2 [14] rfl (Or.inl ⟨by rfl, by intro w9 hSw; obtain ⟨s0, s1, s2, s3⟩ := hSw; go_simp <;> with_reducible rfl⟩) hS0 ?_;refine tkA _ 3 [14] rfl (Or.inl ⟨by rfl, by intro w9 hSw; obtain ⟨s0, s1, s2, s3⟩ := hSw; go_simp <;> with_reducible rfl⟩) hS0 ?_;refine tkA _ 4 [14] rfl (Or.inl ⟨by rfl, by intro w9 hSw; obtain ⟨s0, s1, s2, s3⟩ := hSw; go_simp <;> with_reducible rfl⟩) hS0 ?_;refine tkA _ 5 [14] rfl (Or.inl ⟨by rfl, by intro w9 hSw; obtain ⟨s0, s1, s2, s3⟩ := hSw; go_simp <;> with_reducible rfl⟩) hS0 ?_;refine tkA _ 6 [14] rfl (Or.inl ⟨by rfl, by intro w9 hSw; obtain ⟨s0, s1, s2, s3⟩ := hSw; go_simp <;> with_reducible rfl⟩) hS0 ?_;refine tkA _ 7 [14] rfl (Or.inl ⟨by rfl, by intro w9 hSw; obtain ⟨s0, s1, s2, s3⟩ := hSw; go_simp <;> with_reducible rfl⟩) hS0 ?_;refine tkA _ 9 [14] rfl (Or.inl ⟨by rfl, by intro w9 hSw; obtain ⟨s0, s1, s2, s3⟩ := hSw; go_simp <;> with_reducible rfl⟩) hS0 ?_;refine tkA _ 10 [14] rfl (Or.inl ⟨by rfl, by intro w9 hSw; obtain ⟨s0, s1, s2, s3⟩ := hSw; go_simp <;> with_reducible rfl⟩) hS0 ?_;refine tkA _ 1 [14] rfl (Or.inl ⟨by rfl, by intro w9 hSw; obtain ⟨s0, s1, s2, s3⟩ := hSw; go_simp <;> with_reducible rfl⟩) hS0 ?_;refine lateT_two (i := 8) (j := 13) (by kernel_rfl) rfl rfl (fun K hK => ?_) (fun K hK => ?_)
    ·go_simp
     go_at_call 192; (with_reducible refine (hPos.out _ hD.below).mono ?_); rintro e w6 ⟨rfl, e6⟩; rw [e6]; clear e6 w6
     (try go_wp2_with fail)
     refine kP hK (fun _ => hSS.out _ hD.below) ?_;clear hK K;refine lateT_two (i := 11) (j := 13) (by kernel_rfl) rfl rfl (fun K hK => ?_) (fun K hK => ?_)
     ·go_simp
      go_at_call 131; (with_reducible refine (hCl.out _ hD.below).mono ?_); rintro e wA ⟨A1, c1, rfl, hO6, hb6⟩;replace hD := hD.clone hb6 hO6;clear hO6 hb6
      (try go_wp2_with fail)
      refine kP hK (fun _ => hSS.out _ hD.below) ?_;clear hK K;refine lateT_two (i := 12) (j := 13) (by kernel_rfl) rfl rfl (fun K hK => ?_) (fun K hK => ?_)
      ·go_simp
       refine kP hK (fun _ => hSS.out _ hD.below) ?_;clear hK K;refine lS 13 fun K hK => ?_
       go_simp;replace hD := hD.alloc
       refine kP hK (fun _ => hSS.out _ hD.below) ?_;clear hK K;generalize wA.alloc (.cells #[.int .i64 0, .int .i64 0, .slice none 0 0, .slice none 0 0] 27) = wA at *;refine lS 14 fun K hK => ?_
       have hbx := (hD.box _ rfl).2;have z0 := hbx.c0;have z1 := hbx.c1;have z2 := hbx.c2;have z3 := hbx.c3;have f0 := hbx.f0;have f1 := hbx.f1;have f2 := hbx.f2;have f3 := hbx.f3;go_simp;refine kP hK nH ?_;clear hK K;refine lateT_done (by kernel_rfl) ?_ _;have hM := hD.fillQ (k6 : Int) (posZ St yi);go_wp2_with fail;go_meet;exact ⟨_, _, _, rfl, hide hM⟩
      ·go_simp
       replace hD := hD.alloc;refine kP hK (fun _ => hSS.out _ hD.below) ?_;clear hK K;generalize wA.alloc (.cells #[.int .i64 0, .int .i64 0, .slice none 0 0, .slice none 0 0] 27) = wA at *;refine lS 12 fun K hK => ?_
       go_simp;refine kP hK (fun _ => hSS.out _ hD.below) ?_
       clear hK K;refine lS 14 fun K hK => ?_
       have hbx := (hD.box _ rfl).2;have z0 := hbx.c0;have z1 := hbx.c1;have z2 := hbx.c2;have z3 := hbx.c3;have f0 := hbx.f0;have f1 := hbx.f1;have f2 := hbx.f2;have f3 := hbx.f3;go_simp;refine kP hK nH ?_;clear hK K;refine lateT_done (by kernel_rfl) ?_ _;have hM := hD.fillQ (k6 : Int) (posZ St yi);go_wp2_with fail;go_meet;exact ⟨_, _, _, rfl, hide hM⟩
     ·go_simp
      replace hD := hD.alloc;refine kP hK (fun _ => hSS.out _ hD.below) ?_;clear hK K;generalize wA.alloc (.cells #[.int .i64 0, .int .i64 0, .slice none 0 0, .slice none 0 0] 27) = wA at *;refine lS 11 fun K hK => ?_
      go_simp;go_at_call 131; (with_reducible refine (hCl.out _ hD.below).mono ?_); rintro e wA ⟨A1, c1, rfl, hO6, hb6⟩
      replace hD := hD.clone hb6 hO6;clear hO6 hb6
      (try go_wp2_with fail)
      refine kP hK (fun _ => hSS.out _ hD.below) ?_;clear hK K;refine lS 12 fun K hK => ?_
      go_simp;refine kP hK (fun _ => hSS.out _ hD.below) ?_
      clear hK K;refine lS 14 fun K hK => ?_
      have hbx := (hD.box _ rfl).2;have z0 := hbx.c0;have z1 := hbx.c1;have z2 := hbx.c2;have z3 := hbx.c3;have f0 := hbx.f0;have f1 := hbx.f1;have f2 := hbx.f2;have f3 := hbx.f3;go_simp;refine kP hK nH ?_;clear hK K;refine lateT_done (by kernel_rfl) ?_ _;have hM := hD.fillQ (k6 : Int) (posZ St yi);go_wp2_with fail;go_meet;exact ⟨_, _, _, rfl, hide hM⟩
    ·go_simp
     replace hD := hD.alloc;refine kP hK (fun _ => hSS.out _ hD.below) ?_;clear hK K;generalize wA.alloc (.cells #[.int .i64 0, .int .i64 0, .slice none 0 0, .slice none 0 0] 27) = wA at *;refine lS 8 fun K hK => ?_
     go_simp;go_at_call 192; (with_reducible refine (hPos.out _ hD.below).mono ?_); rintro e w6 ⟨rfl, e6⟩; rw [e6]; clear e6 w6
     (try go_wp2_with fail)
     refine kP hK (fun _ => hSS.out _ hD.below) ?_;clear hK K;refine lS 11 fun K hK => ?_
     go_simp;go_at_call 131; (with_reducible refine (hCl.out _ hD.below).mono ?_); rintro e wA ⟨A1, c1, rfl, hO6, hb6⟩
     replace hD := hD.clone hb6 hO6;clear hO6 hb6
     (try go_wp2_with fail)
     refine kP hK (fun _ => hSS.out _ hD.below) ?_;clear hK K;refine lS 12 fun K hK => ?_
     go_simp;refine kP hK (fun _ => hSS.out _ hD.below) ?_
     clear hK K;refine lS 14 fun K hK => ?_
     have hbx := (hD.box _ rfl).2;have z0 := hbx.c0;have z1 := hbx.c1;have z2 := hbx.c2;have z3 := hbx.c3;have f0 := hbx.f0;have f1 := hbx.f1;have f2 := hbx.f2;have f3 := hbx.f3;go_simp;refine kP hK nH ?_;clear hK K;refine lateT_done (by kernel_rfl) ?_ _;have hM := hD.fillQ (k6 : Int) (posZ St yi);go_wp2_with fail;go_meet;exact ⟨_, _, _, rfl, hide hM⟩
   case rest =>
    obtain ⟨g9, A1, c1, rfl, hF⟩ := hcut;rw [hpzh.out] at hF;obtain ⟨w0, rfl⟩ : ∃ w0 : World, w0 = wc := ⟨_, rfl⟩;have hge := hF.out.ge;have hg9l := hF.out.box.lt;have hz90 := hF.out.bel.size;have hz59 := hz5w9.out;have hFb := hide hF.out.bel;have hb19 := hide hR9.out.bel;have hL0 : Hid (LtmP w1 w0 g9 w0.heap.size (k6 : Int) (i0 : Int) A1 n c1 ls none 0 0 []) := by
     have hres0 : LtsBox w0 w1.heap.size 0 0 none 0 0 none 0 0 := by
      have := hFr9.out.2.1.below hFb.out (by omega);rw [e1h.out]; exact this
     exact ⟨hF.out.box, hres0, hF.out.lab.sink (by omega), Own.nil_ _ _ _, hb19.out.trans (hFb.out.mono (by omega)), ⟨by omega, hg9l⟩, fun q hq => ⟨fun e => hF.out.ne (by rw [← e]; exact hq.symm), (hF.out.lab.lt q hq).2⟩, zR⟩
    have hFr2 : Hid (∀ {wx : World}, (∀ b, b < w0.heap.size → b ≠ g9 → wx.heap[b]? = w0.heap[b]?) → Below w1.heap.size w1 wx → w0.heap.size ≤ wx.heap.size → LtsBox wx w.heap.size (N : Int) (ini : Int) A n c B m d ∧ SysA wx N ini A n B m ls es ∧ wx.cell? ⟨w3.heap.size, 0, none⟩ = some (.slice X6 k6 c6) ∧ SlI wx w5.heap.size w9.heap.size X6 k6 St ∧ SlI wx w2.heap.size w3.heap.size (some ⟨gP, oP, none⟩) N rp) := fun {wx} ho hb hz => by
     have hk : ∀ b, b < w9.heap.size → wx.heap[b]? = w9.heap[b]? := fun b hb9 => (ho b (by omega) (by omega)).trans (hFb.out.block b hb9)
     exact ⟨(hk _ (by omega)).trans hFr9.out.1, hh.out.below (hBb.out.trans (hb.mono (by omega))) zR, (cell_of_row _ _ 0 _ _ (0, 0) ((hk _ (by omega)).trans hR9.out.box)).trans rfl, hR9.out.sl.keep (by omega) fun b h1 h2 h3 => hk b h2, hFr9.out.2.2.2.1.keep (by omega) fun b h1 h2 h3 => hk b h3⟩
    have b3 := (hFr2.out (fun _ _ _ => rfl) hL0.out.bel zR).1.c3;clear hSS hPos hCl hF hFr9 i00 i01;go_wp2_with fail;clear b3
    go_loopw [51] (fun v51 wr => ∃ (k k3 c3 : Nat) (A3 : Option Addr), k ≤ m ∧ v51 = .int .i64 (k : Int) ∧ k3 ≤ k ∧ Hid (LtmP w1 wr g9 w0.heap.size (k6 : Int) (i0 : Int) A1 n c1 ls A3 k3 c3 ((es.take k).filterMap (redO St rp))) ∧ Hid (∀ b, b < w0.heap.size → b ≠ g9 → wr.heap[b]? = w0.heap[b]?)) (fun v _ => m - (intOf v).toNat)
    case atStart => exact ⟨0, 0, 0, none, Nat.zero_le _, rfl, zR, hL0.out, fun _ _ _ => rfl⟩
    case round =>
     clear hL0;obtain ⟨k, k3, c3, A3, hk, rfl, hk3, hL, hoth⟩ := hrel;have hzr : w0.heap.size ≤ wr.heap.size := hL.out.top;obtain ⟨hBx, hSy, -, -, hPx⟩ := hFr2.out hoth.out hL.out.bel hzr
     by_cases hlt : k < m
     ·obtain ⟨gE, oE, f, l, t, eE, -, -, -, hx, a0, a1, a2, -⟩ := SlE.get hSy.se hlt
      have hin := hed.out _ (List.mem_of_getElem? hx);dsimp only at hin;obtain ⟨xt, rfl⟩ : ∃ k : Nat, t = (k : Int) := ⟨t.toNat, by omega⟩;have hxtN : xt < N := by omega
      obtain ⟨gP', oP', y, eP, -, -, hgP2, hy, p0, -⟩ := SlI.get hPx hxtN
      cases eP
      have hstep : Hid ((es.take (k + 1)).filterMap (redO St rp) = (es.take k).filterMap (redO St rp) ++ (redO St rp (f, l, (xt : Int))).toList) := by
       show _ = _
       rw [List.take_add_one, hx, List.filterMap_append]
       congr 1
      have hro : Hid (redO St rp (f, l, (xt : Int)) = if (decide (f ∈ St) && (decide (l ≠ 0) || decide (y ≠ f))) = true then some (posZ St f, l, posZ St y) else none) := by
       show _ = _
       unfold redO;dsimp only;rw [pv_rep (N := N) hy]
      obtain ⟨wE, hwE⟩ : ∃ wE, wE = wr.alloc (.cells #[.int .i64 f, .int .i64 l, .int .i64 (xt : Int)] 84) := ⟨_, rfl⟩;have hbE : Below wr.heap.size wr wE := by rw [hwE]; exact bR.alloc zR _
      have kE : wE.heap[wr.heap.size]? = some (.cells #[.int .i64 f, .int .i64 l, .int .i64 (xt : Int)] 84 (0, 0)) := by rw [hwE]; exact heap_alloc_new wr _
      have kEl : wr.heap.size < wE.heap.size := (Array.getElem?_eq_some_iff.1 kE).1;have hneE : Hid (some wr.heap.size ≠ (Value.slice A3 k3 c3).ownBlock) := fun e => by
       have := (hL.out.eds.lt _ e.symm).2;omega
      have hLE := hide (hL.out.below hbE);have hothE : Hid (∀ b, b < w0.heap.size → b ≠ g9 → wE.heap[b]? = w0.heap[b]?) := fun b h1 h2 => (hbE.block b (by omega)).trans (hoth.out b h1 h2)
      obtain ⟨-, -, hcE, hSE, -⟩ := hFr2.out hothE.out hLE.out.bel hLE.out.top;have qc := hide (containsX_calls f X6 k6 c6 St wE _ _ hSE (by omega));have p0E := (hbE.cell (p := ⟨gP, oP + xt, none⟩) hgP2).trans p0;have k0 : (0 : Int) ≤ (k : Int) := by omega
      have k1 : (k : Int) < (m : Int) := by omega
      have t0 : (0 : Int) ≤ (xt : Int) := by omega
      have t1 : (xt : Int) < (N : Int) := by omega
      have b3 := hBx.c3;have kEh := hide kE;have hbEh := hide hbE;subst eE;clear hBx hSy hPx hx hin hy p0 kE hbE hSE;go_upto_region 14 with fail;rw [show wr.alloc (.cells #[.int .i64 f, .int .i64 l, .int .i64 (xt : Int)] 84) = wE from hwE.symm];replace hwE := hide hwE;clear a0 a1 a2 b3;have y0 := (cell_of_row _ _ 0 _ _ (0, 0) kEh.out).trans (show _ = some (Value.int .i64 f) from rfl);have y1 := (cell_of_row _ _ 1 _ _ (0, 0) kEh.out).trans (show _ = some (Value.int .i64 l) from rfl);have y2 := (cell_of_row _ _ 2 _ _ (0, 0) kEh.out).trans (show _ = some (Value.int .i64 (xt : Int)) from rfl);go_upto_region 15 with fail;clear p0E y2;obtain ⟨bf, hbf⟩ : ∃ bf, bf = decide (f ∈ St) := ⟨_, rfl⟩;rw [← hbf] at qc hro;replace hbf := hide hbf
      go_cut [74] (fun v74 wx => v74 = .bool (bf && (decide (l ≠ 0) || decide (y ≠ f))) ∧ wx = wE)
      case first =>
       cases bf with
       | false =>
        go_wp2_with fail;refine qc.out.mono ?_
        rintro e w7 ⟨rfl, rfl⟩;go_wp2_with fail;go_meet;exact ⟨by simp, rfl⟩
       | true =>
        by_cases l0 : l = 0
        ·subst l0
         have g0 : ((0 : Int) == 0) = true := rfl
         by_cases yf : y = f
         ·subst yf
          have g1 : (y == y) = true := by simp
          go_wp2_with fail;refine qc.out.mono ?_
          rintro e w7 ⟨rfl, rfl⟩;go_wp2_with fail;go_meet;exact ⟨by simp, rfl⟩
         ·have g1 : (y == f) = false := by rw [beq_eq_false_iff_ne]; exact yf
          have g2 : Hid (decide (y ≠ f) = true) := by show _ = _; simp [yf]
          have g3 : (y != f) = true := by simp [yf]
          go_wp2_with fail;refine qc.out.mono ?_
          rintro e w7 ⟨rfl, rfl⟩;go_wp2_with fail;go_meet;exact ⟨by rw [g2.out]; simp, rfl⟩
        ·have g0 : (l == 0) = false := by rw [beq_eq_false_iff_ne]; exact l0
         have g2 : Hid (decide (l ≠ 0) = true) := by show _ = _; simp [l0]
         have g3 : (l != 0) = true := by simp [l0]
         go_wp2_with fail;refine qc.out.mono ?_
         rintro e w7 ⟨rfl, rfl⟩;go_wp2_with fail;go_meet;exact ⟨by rw [g2.out]; simp, rfl⟩
      case rest =>
       obtain ⟨rfl, hwc⟩ := hcut;subst hwc;obtain ⟨wE, rfl⟩ : ∃ wE : World, wE = wc := ⟨_, rfl⟩;obtain ⟨cb, hcb⟩ : ∃ cb, cb = (bf && (decide (l ≠ 0) || decide (y ≠ f))) := ⟨_, rfl⟩;rw [← hcb] at hro ⊢;replace hcb := hide hcb;clear qc
       cases cb with
       | false =>
        have hs2 : Hid ((es.take (k + 1)).filterMap (redO St rp) = (es.take k).filterMap (redO St rp)) := by
         show _ = _
         rw [hstep.out, hro.out, if_neg (by decide)]
         simp
        clear hstep hro y0 y1 hcE;go_wp2_with fail;go_roundw
        case rel => exact ⟨k + 1, k3, c3, A3, by omega, by go_num, by omega, by rw [hs2.out]; exact hLE.out, hothE.out⟩
        case measure => simp [intOf]; omega
       | true =>
        have hs2 : Hid ((es.take (k + 1)).filterMap (redO St rp) = (es.take k).filterMap (redO St rp) ++ [(posZ St f, l, posZ St y)]) := by
         show _ = _
         rw [hstep.out, hro.out, if_pos rfl]
         rfl
        have hbD : Hid (Below wE.heap.size wE wE.drew) := bR.drew;have hLD := hide (hLE.out.below hbD.out);obtain ⟨-, -, hcD, hSD, -⟩ := hFr2.out (wx := wE.drew) hothE.out hLD.out.bel hLD.out.top;have qf := red1_calls f w3.heap.size X6 k6 c6 St wE.drew _ _ hcD hSD (by omega) hStnh.out;have qt := red1_calls y w3.heap.size X6 k6 c6 St wE.drew _ _ hcD hSD (by omega) hStnh.out;generalize posZ St f = pf at qf hs2;generalize posZ St y = pt at qt hs2;replace qf := hide qf;replace qt := hide qt;have hbA1 : Below wE.drew.heap.size wE.drew (wE.drew.alloc (.cells #[.int .i64 pf, .int .i64 l, .int .i64 pt] 84)) := bR.alloc zR _;have hbAE : Hid (Below wE.heap.size wE (wE.drew.alloc (.cells #[.int .i64 pf, .int .i64 l, .int .i64 pt] 84))) := hbD.out.trans hbA1;have hbA : Hid (Below w0.heap.size wr (wE.drew.alloc (.cells #[.int .i64 pf, .int .i64 l, .int .i64 pt] 84))) := (hbEh.out.trans (hbAE.out.mono hbEh.out.size)).mono hzr;have hLa := hide (hLD.out.below hbA1);have hOa := hide hLa.out.eds;have hlit := hide (Sl.lit1' (f := ev) wE.drew 84 (pf, l, pt) #[.int .i64 pf, .int .i64 l, .int .i64 pt] rfl 3 _ rfl);have hza : w0.heap.size ≤ (wE.drew.alloc (.cells #[.int .i64 pf, .int .i64 l, .int .i64 pt] 84)).heap.size := hLa.out.top;have kA : Hid ((wE.drew.alloc (.cells #[.int .i64 pf, .int .i64 l, .int .i64 pt] 84)).heap[wr.heap.size]? = some (.cells #[.int .i64 f, .int .i64 l, .int .i64 (xt : Int)] 84 (0, 0))) := (hbAE.out.block _ kEl).trans kEh.out;have hzA : wr.heap.size < (wE.drew.alloc (.cells #[.int .i64 pf, .int .i64 l, .int .i64 pt] 84)).heap.size := (Array.getElem?_eq_some_iff.1 kA.out).1;have hSs : Hid (∀ wx, Below wE.heap.size wE wx → (fun w' : World => w'.cell? ⟨g9, 3, none⟩ = some (.slice A3 k3 c3) ∧ w'.cell? ⟨wr.heap.size, 0, none⟩ = some (.int .i64 f) ∧ w'.cell? ⟨wr.heap.size, 1, none⟩ = some (.int .i64 l)) wx) := fun wx hb => by
         have kx := (hb.block _ kEl).trans kEh.out;exact ⟨(hLE.out.below hb).box.c3, (cell_of_row _ _ 0 _ _ (0, 0) kx).trans rfl, (cell_of_row _ _ 1 _ _ (0, 0) kx).trans rfl⟩
        clear hstep hro y0 y1 hcE hcD hSD hbA1;go_upto_region 16 with fail;refine lateT_begin (S := fun w' => w'.cell? ⟨g9, 3, none⟩ = some (.slice A3 k3 c3) ∧ w'.cell? ⟨wr.heap.size, 0, none⟩ = some (.int .i64 f) ∧ w'.cell? ⟨wr.heap.size, 1, none⟩ = some (.int .i64 l)) (st := 15) (by kernel_rfl) ?_;have hS0 := hSs.out wE.drew hbD.out;refine tkA _ 0 [15] rfl (Or.inl ⟨by kernel_rfl, by intro w9 hSw; obtain ⟨u0, u1, u2⟩ := hSw; go_simp <;> with_reducible rfl⟩) hS0 ?_;refine tkA _ 1 [15] rfl (Or.inl ⟨by kernel_rfl, by intro w9 hSw; obtain ⟨u0, u1, u2⟩ := hSw; go_simp <;> with_reducible rfl⟩) hS0 ?_;refine tkA _ 2 [15] rfl (Or.inl ⟨by kernel_rfl, by intro w9 hSw; obtain ⟨u0, u1, u2⟩ := hSw; go_simp <;> with_reducible rfl⟩) hS0 ?_;refine tkA _ 3 [15] rfl (Or.inl ⟨by kernel_rfl, by intro w9 hSw; obtain ⟨u0, u1, u2⟩ := hSw; go_simp <;> with_reducible rfl⟩) hS0 ?_;refine tkA _ 4 [15] rfl (Or.inl ⟨by kernel_rfl, by intro w9 hSw; obtain ⟨u0, u1, u2⟩ := hSw; go_simp <;> with_reducible rfl⟩) hS0 ?_;refine tkA _ 6 [15] rfl (Or.inl ⟨by kernel_rfl, by intro w9 hSw; obtain ⟨u0, u1, u2⟩ := hSw; go_simp <;> with_reducible rfl⟩) hS0 ?_;refine tkA _ 7 [15] rfl (Or.inl ⟨by kernel_rfl, by intro w9 hSw; obtain ⟨u0, u1, u2⟩ := hSw; go_simp <;> with_reducible rfl⟩) hS0 ?_;refine tkA _ 8 [15] rfl (Or.inl ⟨by kernel_rfl, by intro w9 hSw; obtain ⟨u0, u1, u2⟩ := hSw; go_simp <;> with_reducible rfl⟩) hS0 ?_;refine tkA _ 9 [15] rfl (Or.inl ⟨by kernel_rfl, by intro w9 hSw; obtain ⟨u0, u1, u2⟩ := hSw; go_simp <;> with_reducible rfl⟩) hS0 ?_;refine lS 5 fun K hK => ?_
        go_simp;go_at_call 192
        (with_reducible refine qf.out.mono ?_)
        rintro e w6 ⟨rfl, e6⟩;rw [e6];clear e6 w6
        (try go_wp2_with fail)
        refine kP hK (fun _ => hSs.out _ hbD.out) ?_;clear hK K;refine lS 10 fun K hK => ?_
        go_simp;go_at_call 192
        (with_reducible refine qt.out.mono ?_)
        rintro e w6 ⟨rfl, e6⟩;rw [e6];clear e6 w6
        (try go_wp2_with fail)
        refine kP hK (fun _ => hSs.out _ hbD.out) ?_;clear hK K;refine lS 11 fun K hK => ?_
        go_simp;refine kP hK (fun _ => hSs.out _ hbD.out) ?_
        clear hK K;refine lS 12 fun K hK => ?_
        go_simp;refine kP hK (fun _ => hSs.out _ hbAE.out) ?_
        clear hK K;refine lS 13 fun K hK => ?_
        refine step_appL (m := 1) (d := 1) (by rfl) (.tmp 76) (.tmp 87) (by rfl) hEe.out flat_ev (by go_simp) hOa.out (by go_simp) hlit.out ?c1 hza ?_
        case c1 => omega
        intro A7 c7 w7 hown7 hgr7 hb7 _;obtain ⟨hbx7, hL7⟩ := hLa.out.grown hgr7 hown7;have hb79 := hbA.out.trans hb7;have k7f := hbx7.f3;have k7c := hbx7.c3;have k7E := (hgr7.block wr.heap.size hzA hneE.out).trans kA.out;have hS9 : Hid ((fun w' : World => w'.cell? ⟨g9, 3, none⟩ = some (.slice A3 k3 c3) ∧ w'.cell? ⟨wr.heap.size, 0, none⟩ = some (.int .i64 f) ∧ w'.cell? ⟨wr.heap.size, 1, none⟩ = some (.int .i64 l)) w7) := ⟨hbx7.c3, (cell_of_row _ _ 0 _ _ (0, 0) k7E).trans rfl, (cell_of_row _ _ 1 _ _ (0, 0) k7E).trans rfl⟩;have hoth7 : Hid (∀ b, b < w0.heap.size → b ≠ g9 → (w7.setCell ⟨g9, 3, none⟩ (.slice A7 (k3 + 1) c7)).heap[b]? = w0.heap[b]?) := fun b h1 h2 => (Below.heap_setCell _ _ _ _ h2).trans ((hb79.block b h1).trans (hoth.out b h1 h2))
        replace hL7 := hide hL7;clear hgr7 hb7 hown7 hbx7 k7E;refine kP hK (fun _ => hS9.out) ?_;clear hK K;refine lS 14 fun K hK => ?_
        go_simp;refine kP hK (fun _ => hS9.out) ?_
        clear hK K;refine lS 15 fun K hK => ?_
        go_simp;refine kP hK nH ?_
        clear hK K;refine lateT_done (by kernel_rfl) ?_ _;rw [← hs2.out] at hL7;go_wp2_with fail;go_roundw
        case rel => exact ⟨k + 1, k3 + 1, c7, A7, by omega, by go_num, by omega, hL7.out, hoth7.out⟩
        case measure => simp [intOf]; omega
     ·obtain rfl : k = m := by omega
      have k1 : ¬ (k : Int) < (k : Int) := by omega
      have hLm := hL.out;rw [List.take_of_length_le (by omega)] at hLm;have qT := hide (tidy_calls hLm (by omega));clear hBx hSy hPx hL hLm;go_wp2_with fail;refine qT.out.mono ?_;rintro e wT ⟨n3, rfl, hLT⟩
      change LtmP w1 wT g9 w0.heap.size (k6 : Int) (i0 : Int) A1 n c1 ls A3 n3 c3 (redF St rp es) at hLT
      have hn3 : n3 ≤ k := by
       have h1 := hLT.eds.len;have h2 : (redF St rp es).length ≤ es.length := by
        unfold redF;refine Nat.le_trans (Go.Lib.compact_length_le _) ?_;rw [sortE_len];exact List.length_filterMap_le _ _
       omega
      have hbTD : Below wT.heap.size wT wT.drew := bR.drew;have hSyD : Hid (SysA wT.drew k6 i0 A1 n A3 n3 ls (redF St rp es)) := by
       have : SysA wT k6 i0 A1 n A3 n3 ls (redF St rp es) := ⟨(hLT.labs.sl flat_strv).here', (hLT.eds.sl flat_ev).here', herv.out, hsz.out⟩;exact this.below hbTD zR
      have hLD := hide (hLT.below hbTD);have hSs : Hid (∀ wx, Below wT.drew.heap.size wT.drew wx → (fun w' : World => w'.cell? ⟨g9, 0, none⟩ = some (.int .i64 (k6 : Int)) ∧ w'.cell? ⟨g9, 1, none⟩ = some (.int .i64 (i0 : Int)) ∧ w'.cell? ⟨g9, 2, none⟩ = some (.slice A1 n c1) ∧ w'.cell? ⟨g9, 3, none⟩ = some (.slice A3 n3 c3)) wx) := fun wx hb => by
       have := (hLD.out.below hb).box;exact ⟨this.c0, this.c1, this.c2, this.c3⟩
      have hRes : Hid (∀ wx, Below wT.drew.heap.size wT.drew wx → LtsBox wx (w.heap.size + 1) 0 0 none 0 0 none 0 0) := fun wx hb => by
       have := (hLD.out.below hb).res;rw [e1h.out] at this;exact this
      have qR := hide (reachable_calls k6 i0 (.slice A1 n c1) A3 n3 c3 (redF St rp es) wT.drew _ _ hSyD.out.se (by omega) (by omega) hk40 (by omega) ⟨_, _, _, rfl⟩ hSyD.out.ends);have hbTh := hide (hLT.bel.trans (hbTD.mono hLT.bel.size));have hzT := hbTh.out.size;clear qT hLT hbTD;go_upto_region 19 with fail;refine lateT_begin (S := fun w' => w'.cell? ⟨g9, 0, none⟩ = some (.int .i64 (k6 : Int)) ∧ w'.cell? ⟨g9, 1, none⟩ = some (.int .i64 (i0 : Int)) ∧ w'.cell? ⟨g9, 2, none⟩ = some (.slice A1 n c1) ∧ w'.cell? ⟨g9, 3, none⟩ = some (.slice A3 n3 c3)) (st := 4) (by kernel_rfl) ?_;have hS0 := hSs.out wT.drew bR;refine tkA _ 0 [4] rfl (Or.inl ⟨by kernel_rfl, by intro w9 hSw; obtain ⟨u0, u1, u2, u3⟩ := hSw; go_simp <;> with_reducible rfl⟩) hS0 ?_;refine tkA _ 1 [4] rfl (Or.inl ⟨by kernel_rfl, by intro w9 hSw; obtain ⟨u0, u1, u2, u3⟩ := hSw; go_simp <;> with_reducible rfl⟩) hS0 ?_;refine lS 2 fun K hK => ?_
      go_simp;go_at_call 58
      (with_reducible refine qR.out.mono ?_)
      rintro e wB ⟨AS, mS, cS, rfl, hRl, hm40, -, hbB⟩;have hlS := hRl.len;have hSB := hSs.out wB hbB;have qP := hide (part_calls (hSyD.out.below hbB zR) c1 c3 AS mS cS _ _ _ hRl zR (by omega) reach_nodup);have hbBh := hide hbB;clear qR;go_wp2_with fail;refine kP hK (fun _ => hSB) ?_;clear hK K;refine lS 3 fun K hK => ?_
      go_simp;go_at_call 59
      (with_reducible refine qP.out.mono ?_)
      rintro e wC ⟨A8, c8, A9, n9, c9, rfl, hss, hse, hbC⟩;have hbBC := hide (hbBh.out.trans (hbC.mono hbBh.out.size));have hSC := hSs.out wC hbBC.out;have hrC := hRes.out wC hbBC.out;have r0 := hrC.c0;have r1 := hrC.c1;have r2 := hrC.c2;have r3 := hrC.c3;have v0 := hrC.f0;have v1 := hrC.f1;have v2 := hrC.f2;have v3 := hrC.f3;have hssh := hide hss;have hseh := hide hse;have hbCh := hide hbC;clear qP hss hse hbC hrC;go_wp2_with fail;refine kP hK (fun _ => hSC) ?_;clear hK K;refine lS 4 fun K hK => ?_
      go_simp;refine kP hK nH ?_
      clear hK K;refine lateT_done (by kernel_rfl) ?_ _;have hstrict := (hRes.out wT.drew bR).lt;have hzB := hbBh.out.size;have hzC := hbCh.out.size;go_wp2_with fail
      (try simp only [Exit.inBlock, Exit.then])
      refine bodyPost_ret_by (v := .agg #[.int .i64 (mS : Int), .int .i64 (posZ (reachF k6 (redF St rp es) (i0 : Int)) (i0 : Int)), .slice A8 n c8, .slice A9 n9 c9]) ?_ rfl ?_
      focus
       rw [results_cell1 rfl];go_simp
      have hi0S : (i0 : Int) ∈ reachF k6 (redF St rp es) (i0 : Int) := reach_ini (by omega);obtain ⟨hv1, hv0⟩ := part_valid herv.out reach_nodup (by omega) hi0S;obtain ⟨i1, hi1⟩ : ∃ i1 : Nat, posZ (reachF k6 (redF St rp es) (i0 : Int)) (i0 : Int) = (i1 : Int) := ⟨(posZ (reachF k6 (redF St rp es) (i0 : Int)) (i0 : Int)).toNat, by omega⟩;rw [hi1] at hv1 ⊢;rw [hk6] at hfuh;have hn9 : n9 ≤ k := by
       have h1 := hseh.out.len;have h2 := partF_len (S := reachF k6 (redF St rp es) (i0 : Int)) (es := redF St rp es);have h3 := hSyD.out.se.len;omega
      have hout9 : RdcO N ini es S (repF N rp) St (redF St rp es) (reachF k6 (redF St rp es) (i0 : Int)) i0 i1 := ⟨hredh.out, hrepC.out, hdomh.out, houth.out, hhi.out, by rw [hk6], (posZ_at reach_nodup).1 hi1⟩;refine ⟨repF N rp, St, redF St rp es, reachF k6 (redF St rp es) (i0 : Int), i0, i1, A8, c8, A9, n9, c9, by rw [hlS], ⟨?_, ?_, hv1, hsz.out⟩, hout9, hn9, ?_⟩
      ·exact (hssh.out.keep (w' := put4 wC (w.heap.size + 1) (.int .i64 (mS : Int)) (.int .i64 (i1 : Int)) (.slice A8 n c8) (.slice A9 n9 c9)) (by rw [put4_size]; exact zR) fun b h1 h2 h3 => put4_other _ _ _ _ _ _ (by omega)).here'
      ·exact (hseh.out.keep (w' := put4 wC (w.heap.size + 1) (.int .i64 (mS : Int)) (.int .i64 (i1 : Int)) (.slice A8 n c8) (.slice A9 n9 c9)) (by rw [put4_size]; exact zR) fun b h1 h2 h3 => put4_other _ _ _ _ _ _ (by omega)).here'
      ·have hbZ : Below w.heap.size w wC := hBb.out.trans ((hbTh.out.trans (hbBC.out.mono hzT)).mono (by omega))
       exact (((hbZ.setCell (by show w.heap.size ≤ w.heap.size + 1; omega) _).setCell (by show w.heap.size ≤ w.heap.size + 1; omega) _).setCell (by show w.heap.size ≤ w.heap.size + 1; omega) _).setCell (by show w.heap.size ≤ w.heap.size + 1; omega) _
end
theorem RdcO.few {N ini : Nat} {es : List Ed} {S : List Int} {rep : Nat → Nat} {St : List Int} {er : List Ed} {S1 : List Int} {i0 i1 : Nat} (h : RdcO N ini es S rep St er S1 i0 i1) : S1.length ≤ N := by
 have h1 : St.length ≤ ((List.range N).map Int.ofNat).length := sub_len h.red.nd fun x hx => by
  obtain ⟨k, hk, rfl⟩ := (h.red.mem x).1 hx;obtain ⟨k', e, hk', -⟩ := reach_mem.1 hk;obtain rfl : k = k' := by omega
  exact List.mem_map.2 ⟨rep k, List.mem_range.2 (h.dom k hk'), rfl⟩
 have h2 := reach_len (N := St.length) (es := er) (ini := (i0 : Int));rw [← h.hS1] at h2
 simp at h1
 omega
section
variable {w : World} {N ini : Nat} {A : Option Addr} {n c : Nat} {B : Option Addr} {m d : Nat} {ls : List ByteArray} {es : List Ed}
theorem reduceMin_calls (h : SysA w N ini A n B m ls es) (he : Env w) (hE : m + N ≤ 300) :
  Calls Tryz.prog 40 #[.agg #[.int .i64 (N : Int), .int .i64 (ini : Int), .slice A n c, .slice B m d]] w fun e w' => ∃ (K c0 : Nat) (A2 : Option Addr) (cA : Nat) (A3 : Option Addr) (n3 cB : Nat) (eb : List Ed),
   e = .returned (.tuple #[.agg #[.int .i64 (K : Int), .int .i64 (c0 : Int), .slice A2 n cA, .slice A3 n3 cB], .int .i64 0]) ∧ SysA w' K c0 A2 n A3 n3 ls eb ∧ RedM N ini es K c0 eb ∧ K ≤ N ∧ eb.length ≤ m + N ∧ Below w.heap.size w w' := by
 have hmn := h.many;have hini := h.bounds.2;have hed := hide h.edges;have hse := h.se.len;obtain ⟨wB, hwB⟩ : ∃ wB, wB = w.alloc (ltsC N ini A n c B m d) := ⟨_, rfl⟩;have zB : wB.heap.size = w.heap.size + 1 := by rw [hwB]; exact World.size_alloc _ _
 obtain ⟨w1, hw1⟩ : ∃ w1, w1 = wB.alloc (.cells #[.int .i64 0, .int .i64 0, .slice none 0 0, .slice none 0 0] 27) := ⟨_, rfl⟩;have hB := h.box (c := c) (d := d);rw [← hwB] at hB;have hbB1 : Below wB.heap.size wB w1 := by rw [hw1]; exact bR.alloc zR _
 have hB1 := hB.below hbB1;have kR : LtsBox w1 (w.heap.size + 1) 0 0 none 0 0 none 0 0 := by
  have := heap_alloc_new wB (.cells #[.int .i64 0, .int .i64 0, .slice none 0 0, .slice none 0 0] 27);rw [zB] at this;rw [hw1]; exact this
 have q1 := hide (hB1.sys.valid c d (he.below hB1.bel zR));have b0 := hB1.box.c0;have b1 := hB1.box.c1;have b2 := hB1.box.c2;have b3 := hB1.box.c3;replace hB1 := hide hB1;have kRh := hide kR;clear h hB hbB1 he kR;go_enter Tryz.func40, Tryz.ntmps40;go_upto_region 1 with fail;rw [show ((w.alloc (.cells #[.int .i64 (N : Int), .int .i64 (ini : Int), .slice A n c, .slice B m d] 27)).alloc (.cells #[.int .i64 0, .int .i64 0, .slice none 0 0, .slice none 0 0] 27)) = w1 from by rw [hw1, hwB]];replace hw1 := hide hw1;replace hwB := hide hwB;replace zB := hide zB;go_wp2_with fail;refine q1.out.mono ?_;rintro e w2 ⟨rfl, hb2⟩;obtain ⟨wD, hwD⟩ : ∃ wD, wD = w2.drew := ⟨_, rfl⟩;have hb2D : Below w2.heap.size w2 wD := by rw [hwD]; exact bR.drew
 have hBD := hide ((hB1.out.below hb2).below hb2D);have kR2 := kRh.out.below hb2 kRh.out.lt;have kRD := hide (kR2.below hb2D kR2.lt);have hSS : Hid (∀ wx, Below wD.heap.size wD wx → (fun w' : World => w'.cell? ⟨w.heap.size, 0, none⟩ = some (.int .i64 (N : Int)) ∧ w'.cell? ⟨w.heap.size, 1, none⟩ = some (.int .i64 (ini : Int)) ∧ w'.cell? ⟨w.heap.size, 2, none⟩ = some (.slice A n c) ∧ w'.cell? ⟨w.heap.size, 3, none⟩ = some (.slice B m d)) wx) := fun wx hb => by
  have := (hBD.out.below hb).box;exact ⟨this.c0, this.c1, this.c2, this.c3⟩
 have hRes : Hid (∀ wx, Below wD.heap.size wD wx → LtsBox wx (w.heap.size + 1) 0 0 none 0 0 none 0 0) := fun wx hb => kRD.out.below hb kRD.out.lt
 have q2 := hide (confluentEdges_calls (c := c) (d := d) hBD.out.sys);have hbD := hide hBD.out.bel;have hzD := hbD.out.size;have hkl := kRD.out.lt;replace hwD := hide hwD;clear q1 b0 b1 b2 b3 hb2 hb2D kR2;go_upto_region 3 with fail;refine lateT_begin (S := fun w' => w'.cell? ⟨w.heap.size, 0, none⟩ = some (.int .i64 (N : Int)) ∧ w'.cell? ⟨w.heap.size, 1, none⟩ = some (.int .i64 (ini : Int)) ∧ w'.cell? ⟨w.heap.size, 2, none⟩ = some (.slice A n c) ∧ w'.cell? ⟨w.heap.size, 3, none⟩ = some (.slice B m d)) (st := 6) (by kernel_rfl) ?_;rw [← show wD = _ from hwD.out];have hS0 := hSS.out wD bR;refine tkA _ 0 [6] rfl (Or.inl ⟨by kernel_rfl, by intro w9 hSw; obtain ⟨u0, u1, u2, u3⟩ := hSw; go_simp <;> with_reducible rfl⟩) hS0 ?_;refine tkA _ 1 [6] rfl (Or.inl ⟨by kernel_rfl, by intro w9 hSw; obtain ⟨u0, u1, u2, u3⟩ := hSw; go_simp <;> with_reducible rfl⟩) hS0 ?_;refine lS 2 fun K hK => ?_
 go_simp;go_at_call 104
 (with_reducible refine q2.out.mono ?_)
 rintro e w3 ⟨C, qn, cC, St, rfl, hSl, hTS, hCL, hb3⟩;have hB3 := hide (hBD.out.below hb3);have hqn : qn ≤ m := by have h1 := hSl.len; have h2 := set_len hCL hTS.up; omega
 have q3 := hide (reduceConfluent_calls (c := c) (d := d) hB3.out.sys C qn cC St _ _ hSl (by omega) hTS hCL);have hSS3 := hSS.out w3 hb3;have hCLh := hide hCL;have hb3h := hide hb3;clear q2 hSl;go_wp2_with fail;refine kP hK (fun _ => hSS3) ?_;clear hK K;refine lS 3 fun K hK => ?_
 go_simp;go_at_call 103
 (with_reducible refine q3.out.mono ?_)
 rintro e w4 ⟨rep, Sr, er, S1, i0, i1, A4, c4, A5, n5, d5, rfl, hSy4, hO4, hn5, hb4⟩;have hS1N : S1.length ≤ N := hO4.few;have q4 := hide (minimalBr_calls hSy4 c4 d5 false (by omega));have hb24 := hide (hb3h.out.trans (hb4.mono hb3h.out.size));have hSS4 := hSS.out w4 hb24.out;have hO4h := hide hO4;have hlen5 := hide hSy4.se.len;clear q3 hb4 hSy4;go_wp2_with fail;refine kP hK (fun _ => hSS4) ?_;clear hK K;refine lS 4 fun K hK => ?_
 go_simp;go_at_call 105
 (with_reducible refine q4.out.mono ?_)
 rintro e w5 ⟨r, c0, iR, A6, c6, A7, n7, d7, rfl, hM⟩;have hb25 := hide (hb24.out.trans (hM.bel.mono hb24.out.size));have hSS5 := hSS.out w5 hb25.out;have hR5 := hRes.out w5 hb25.out;have r0 := hR5.c0;have r1 := hR5.c1;have r2 := hR5.c2;have r3 := hR5.c3;have v0 := hR5.f0;have v1 := hR5.f1;have v2 := hR5.f2;have v3 := hR5.f3;obtain ⟨NM, hNM⟩ : ∃ NM, NM = numB (mbP S1.length i1 r false (partF S1 er)) := ⟨_, rfl⟩;rw [← hNM];have hSS6 : Hid ((fun w' : World => w'.cell? ⟨w.heap.size, 0, none⟩ = some (.int .i64 (N : Int)) ∧ w'.cell? ⟨w.heap.size, 1, none⟩ = some (.int .i64 (ini : Int)) ∧ w'.cell? ⟨w.heap.size, 2, none⟩ = some (.slice A n c) ∧ w'.cell? ⟨w.heap.size, 3, none⟩ = some (.slice B m d)) (put4 w5 (w.heap.size + 1) (.int .i64 (NM : Int)) (.int .i64 (c0 : Int)) (.slice A6 n c6) (.slice A7 n7 d7))) := by
  have kx : LtsBox (put4 w5 (w.heap.size + 1) (.int .i64 (NM : Int)) (.int .i64 (c0 : Int)) (.slice A6 n c6) (.slice A7 n7 d7)) w.heap.size (N : Int) (ini : Int) A n c B m d := (put4_other _ _ _ _ _ _ (by omega)).trans (hBD.out.below hb25.out).box;exact ⟨kx.c0, kx.c1, kx.c2, kx.c3⟩
 replace hNM := hide hNM;replace hM := hide hM;clear q4 hR5;go_wp2_with fail;refine kP hK (fun _ => hSS5) ?_;clear hK K;refine lS 5 fun K hK => ?_
 go_simp;refine kP hK (fun _ => hSS6.out) ?_
 clear hK K;refine lS 6 fun K hK => ?_
 go_simp;refine kP hK nH ?_
 clear hK K;refine lateT_done (by kernel_rfl) ?_ _;go_wp2_with fail
 (try simp only [Exit.inBlock, Exit.then])
 refine bodyPost_ret_by (v := .tuple #[.agg #[.int .i64 (NM : Int), .int .i64 (c0 : Int), .slice A6 n c6, .slice A7 n7 d7], .int .i64 0]) ?_ rfl ?_
 focus
  rw [results_cs rfl];go_simp
 have hZs := put4_size w5 (w.heap.size + 1) (.int .i64 (NM : Int)) (.int .i64 (c0 : Int)) (.slice A6 n c6) (.slice A7 n7 d7);have hf : ∀ q, q ≠ w.heap.size + 1 → (put4 w5 (w.heap.size + 1) (.int .i64 (NM : Int)) (.int .i64 (c0 : Int)) (.slice A6 n c6) (.slice A7 n7 d7)).heap[q]? = w5.heap[q]? := fun q hq => put4_other _ _ _ _ _ _ hq
 have hz4 := hb24.out.size;have hrw : RedM N ini es NM c0 (mbE S1.length i1 r false (partF S1 er)) := by
  obtain ⟨i, hi⟩ := List.getElem?_of_mem (reach_ini (es := es) hini);obtain ⟨P, hQ, hP⟩ := red_way hO4h.out.red hed.out hini (hCLh.out.conf hed.out) hO4h.out.rc hO4h.out.dom hO4h.out.out (i := i) rfl rfl hO4h.out.hi0 hO4h.out.hS1 rfl hO4h.out.hi1 rfl hi;rw [hNM.out];exact RedM.of hM.out hi hQ hP
 have hlenM : (mbE S1.length i1 r false (partF S1 er)).length ≤ m + N := by
  have h1 := quoB_len (es := partF (reachF S1.length (partF S1 er) (i1 : Int)) (partF S1 er)) (N := (reachF S1.length (partF S1 er) (i1 : Int)).length) (dv := false) (p := mbP S1.length i1 r false (partF S1 er));have h2 := partF_len (S := reachF S1.length (partF S1 er) (i1 : Int)) (es := partF S1 er);have h3 := reach_len (N := S1.length) (es := partF S1 er) (ini := (i1 : Int));have h4 := hlen5.out;unfold mbE;omega
 refine ⟨NM, c0, A6, c6, A7, n7, d7, mbE S1.length i1 r false (partF S1 er), rfl, ⟨?_, ?_, by rw [hNM.out]; exact hM.out.ok, hM.out.sz⟩, hrw, by rw [hNM.out]; exact Nat.le_trans hM.out.few hS1N, hlenM, ?_⟩
 ·exact (Sl.keep (w' := put4 w5 (w.heap.size + 1) (.int .i64 (NM : Int)) (.int .i64 (c0 : Int)) (.slice A6 n c6) (.slice A7 n7 d7)) hM.out.ss (Nat.le_of_eq hZs.symm) fun q h1 h2 h3 => hf q (by omega)).here'
 ·exact (Sl.keep (w' := put4 w5 (w.heap.size + 1) (.int .i64 (NM : Int)) (.int .i64 (c0 : Int)) (.slice A6 n c6) (.slice A7 n7 d7)) hM.out.se (Nat.le_of_eq hZs.symm) fun q h1 h2 h3 => hf q (by omega)).here'
 ·have hbF := hbD.out.trans (hb25.out.mono hzD)
  exact ⟨hbF.os, hbF.tape, hbF.output, Nat.le_trans hbF.size (Nat.le_of_eq hZs.symm), fun q hq => (hf q (by omega)).trans (hbF.block q hq)⟩
end
def keepF (S : List Int) (es : List Ed) : List Ed := es.filterMap (partO S)
theorem posZ_mono {S : List Int} (hS : S.Pairwise (· < ·)) {u v : Int} (hu : 0 ≤ posZ S u) (hv : 0 ≤ posZ S v) (h : u < v) : posZ S u < posZ S v := by
 have hn : S.Nodup := hS.imp fun h => by omega
 obtain ⟨i, hi⟩ : ∃ i : Nat, posZ S u = (i : Int) := ⟨(posZ S u).toNat, by omega⟩;obtain ⟨j, hj⟩ : ∃ j : Nat, posZ S v = (j : Int) := ⟨(posZ S v).toNat, by omega⟩;obtain ⟨h1, h2⟩ := List.getElem?_eq_some_iff.1 ((posZ_at hn).1 hi);obtain ⟨h3, h4⟩ := List.getElem?_eq_some_iff.1 ((posZ_at hn).1 hj);rw [hi, hj]
 rcases Nat.lt_trichotomy i j with g | g | g
 ·omega
 ·subst g
  rw [h2] at h4;omega
 ·have := List.pairwise_iff_getElem.1 hS j i h3 h1 g
  rw [h2, h4] at this;omega
theorem partO_some {S : List Int} {e x : Ed} (h : partO S e = some x) : 0 ≤ posZ S e.1 ∧ 0 ≤ posZ S e.2.2 ∧ x = (posZ S e.1, e.2.1, posZ S e.2.2) := by
 unfold partO at h
 by_cases c : 0 ≤ posZ S e.1 ∧ 0 ≤ posZ S e.2.2
 ·rw [if_pos c] at h
  injection h with h;exact ⟨c.1, c.2, h.symm⟩
 ·rw [if_neg c] at h
  cases h
theorem keep_rise {S : List Int} (hS : S.Pairwise (· < ·)) {es : List Ed} (h : RisE es) : RisE (keepF S es) := by
 unfold RisE keepF;refine List.Pairwise.filterMap _ (fun a b hab x hx y hy => ?_) h;obtain ⟨a1, a2, rfl⟩ := partO_some hx;obtain ⟨b1, b2, rfl⟩ := partO_some hy;rw [edLess_iff] at hab ⊢;dsimp only
 rcases hab with g | ⟨g, g2⟩
 ·exact .inl (posZ_mono hS a1 b1 g)
 ·rcases g2 with g2 | ⟨g2, g3⟩
  ·exact .inr ⟨by rw [g], .inl g2⟩
  ·exact .inr ⟨by rw [g], .inr ⟨g2, posZ_mono hS a2 b2 g3⟩⟩
def StepP (B nl : Nat) (p : Int) (s : List Ed) : Prop := ∀ e, e ∈ s → e.1 = p ∧ (0 ≤ e.2.1 ∧ e.2.1 < (nl : Int)) ∧ 0 ≤ e.2.2 ∧ e.2.2 < (B : Int)
theorem StepP.nil {B nl : Nat} {p : Int} : StepP B nl p [] := fun _ h => (List.not_mem_nil h).elim
theorem StepP.app {B nl : Nat} {p l t : Int} {s : List Ed} (h : StepP B nl p s) (hl : 0 ≤ l ∧ l < (nl : Int)) (ht : 0 ≤ t ∧ t < (B : Int)) : StepP B nl p (s ++ [(p, l, t)]) := fun e he => by
 rcases List.mem_append.1 he with h1 | h1
 ·exact h e h1
 ·rw [List.mem_singleton.1 h1]; exact ⟨rfl, hl, ht⟩
theorem pair_lt {na nb : Nat} {x y : Int} (hx : 0 ≤ x ∧ x < (na : Int)) (hy : 0 ≤ y ∧ y < (nb : Int)) : 0 ≤ x * (nb : Int) + y ∧ x * (nb : Int) + y < ((na * nb : Nat) : Int) := by
 have h1 : 0 ≤ x * (nb : Int) := Int.mul_nonneg hx.1 (by omega);have h2 : (x + 1) * (nb : Int) ≤ (na : Int) * (nb : Int) := Int.mul_le_mul_of_nonneg_right (by omega) (by omega);rw [Int.add_mul, Int.one_mul] at h2;rw [Int.natCast_mul];omega
theorem pair_div {na nb : Nat} {p : Int} (h : 0 ≤ p ∧ p < ((na * nb : Nat) : Int)) : ∃ x y : Nat, p = (x : Int) * (nb : Int) + (y : Int) ∧ x < na ∧ y < nb := by
 obtain ⟨p, rfl⟩ : ∃ k : Nat, p = (k : Int) := ⟨p.toNat, by omega⟩;have hp : p < na * nb := by omega
 have hb : 0 < nb := by
  rcases Nat.eq_zero_or_pos nb with h0 | h0
  ·subst h0; simp at hp
  ·exact h0
 refine ⟨p / nb, p % nb, ?_, (Nat.div_lt_iff_lt_mul hb).2 hp, Nat.mod_lt _ hb⟩;have h1 := Nat.div_add_mod p nb;rw [Nat.mul_comm] at h1;rw [← Int.natCast_mul, ← Int.natCast_add];omega
structure PrI (B nl : Nat) (ps : List Int) (E : List Ed) (k : Nat) : Prop where
 nd : ps.Nodup
 rng : ∀ p, p ∈ ps → 0 ≤ p ∧ p < (B : Int)
 rise : RisE E
 eds : ∀ e, e ∈ E → e.1 ∈ ps ∧ (0 ≤ e.2.1 ∧ e.2.1 < (nl : Int)) ∧ e.2.2 ∈ ps
 few : E.length ≤ k
section
variable {B nl k : Nat} {ps : List Int} {E E' : List Ed} {p l t : Int}
theorem PrI.begin (hp : 0 ≤ p ∧ p < (B : Int)) : PrI B nl [p] [] 0 :=
 ⟨List.pairwise_singleton _ _, fun q hq => by rw [List.mem_singleton.1 hq]; exact hp, List.Pairwise.nil, fun _ h => (List.not_mem_nil h).elim, zR⟩
theorem PrI.more (h : PrI B nl ps E k) {k' : Nat} (hk : k ≤ k') : PrI B nl ps E k' := ⟨h.nd, h.rng, h.rise, h.eds, Nat.le_trans h.few hk⟩
theorem PrI.old (h : PrI B nl ps E k) (hp : p ∈ ps) (hl : 0 ≤ l ∧ l < (nl : Int)) (ht : t ∈ ps) (hE : PutO E (p, l, t) E') : PrI B nl ps E' (k + 1) :=
 ⟨h.nd, h.rng, hE.1, fun e he => by
  rcases (hE.2.1 e).1 he with rfl | he
  ·exact ⟨hp, hl, ht⟩
  ·exact h.eds e he, by have := h.few; have := hE.2.2; omega⟩
theorem PrI.new (h : PrI B nl ps E k) (hp : p ∈ ps) (hl : 0 ≤ l ∧ l < (nl : Int)) (ht : 0 ≤ t ∧ t < (B : Int)) (hn : t ∉ ps) (hE : PutO E (p, l, t) E') : PrI B nl (ps ++ [t]) E' (k + 1) := by
 refine ⟨?_, fun q hq => ?_, hE.1, fun e he => ?_, by have := h.few; have := hE.2.2; omega⟩
 ·rw [List.nodup_append]
  refine ⟨h.nd, List.pairwise_singleton _ _, fun a ha b hb => ?_⟩;rw [List.mem_singleton.1 hb];exact fun e => hn (e ▸ ha)
 ·rcases List.mem_append.1 hq with h1 | h1
  ·exact h.rng q h1
  ·rw [List.mem_singleton.1 h1]; exact ht
 ·rcases (hE.2.1 e).1 he with rfl | he
  ·exact ⟨List.mem_append_left _ hp, hl, List.mem_append_right _ (List.mem_singleton_self _)⟩
  ·have := h.eds e he
   exact ⟨List.mem_append_left _ this.1, this.2.1, List.mem_append_left _ this.2.2⟩
theorem PrI.size (h : PrI B nl ps E k) : ps.length ≤ B := by
 have h1 : ps.length ≤ ((List.range B).map Int.ofNat).length := sub_len h.nd fun x hx => by
  have := h.rng x hx;exact List.mem_map.2 ⟨x.toNat, List.mem_range.2 (by omega), by show ((x.toNat : Nat) : Int) = x; omega⟩
 simpa using h1
def OrdI (ps o : List Int) : Prop := o.Pairwise (· < ·) ∧ ∀ x, x ∈ o ↔ x ∈ ps
theorem OrdI.nil : OrdI [] [] := ⟨List.Pairwise.nil, fun _ => Iff.rfl⟩
theorem OrdI.put {o : List Int} (h : OrdI ps o) : OrdI (ps ++ [p]) (putI o p) :=
 ⟨putI_asc h.1, fun x => by rw [putI_mem, h.2, List.mem_append, List.mem_singleton]⟩
theorem OrdI.len {o : List Int} (h : OrdI ps o) (hn : ps.Nodup) : o.length ≤ ps.length :=
 sub_len (h.1.imp fun h => by omega) fun x hx => (h.2 x).1 hx
theorem keep_all {S : List Int} (hm : ∀ e, e ∈ E → e.1 ∈ S ∧ e.2.2 ∈ S) : keepF S E = E.map fun e => (posZ S e.1, e.2.1, posZ S e.2.2) := by
 unfold keepF
 induction E with
 | nil => rfl
 | cons e E ih =>
  have h1 := hm e (List.mem_cons_self ..);have h2 : partO S e = some (posZ S e.1, e.2.1, posZ S e.2.2) := by
   unfold partO;have a1 : 0 ≤ posZ S e.1 := by unfold posZ; rw [if_pos h1.1]; omega
   have a2 : 0 ≤ posZ S e.2.2 := by unfold posZ; rw [if_pos h1.2]; omega
   simp [a1, a2]
  rw [List.filterMap_cons, h2, List.map_cons, ih fun e he => hm e (List.mem_cons_of_mem _ he)]
theorem PrI.valid {ls : List ByteArray} {o : List Int} (h : PrI B ls.length ps E k) (ho : OrdI ps o) (hf : p ∈ ps) (hB : B ≤ 40) (hk : k ≤ 300) (hn : namesB ls = true) :
  ltsV ((o.length : Int), posZ o p, ls, E.map fun e => (posZ o e.1, e.2.1, posZ o e.2.2)) = true ∧ 0 ≤ posZ o p ∧ posZ o p < (o.length : Int) := by
 have hm : ∀ e, e ∈ E → e.1 ∈ o ∧ e.2.2 ∈ o := fun e he => by have := h.eds e he; exact ⟨(ho.2 _).2 this.1, (ho.2 _).2 this.2.2⟩
 have hp : ∀ {x : Int}, x ∈ o → 0 ≤ posZ o x ∧ posZ o x < (o.length : Int) := fun {x} hx => by
  have h2 : o.idxOf x < o.length := List.idxOf_lt_length_iff.2 hx;unfold posZ;rw [if_pos hx];omega
 have hfo := hp ((ho.2 p).2 hf);have hl := ho.len h.nd;have hs := h.size;have hfew := h.few;have hr := keep_rise ho.1 h.rise;rw [keep_all hm] at hr;refine ⟨ltsV_of (by omega) hfo hn (by rw [List.length_map]; omega) hr fun x hx => ?_, hfo⟩;obtain ⟨e, he, rfl⟩ := List.mem_map.1 hx;have h1 := hm e he;have h2 := (h.eds e he).2.1;exact ⟨hp h1.1, h2, hp h1.2⟩
end
end Go.Proofs.YtnhomkmfbngmgaaGreatDoor
namespace Go.Proofs.YtnhomkmfbngmgaaGreatDoor
open Go.ChangeShapes Go.WideShapes Go.ChangeAt Go.RowKit Go.Sort
def namS (s : ByteArray) : ByteArray := s.extract 0 (openN s)
theorem l01LabelName_calls (s : ByteArray) (w : World) (hs : s.size ≤ 1048576) : Calls Tryz.prog 318 #[.string s] w fun e w' => e = .returned (.string (namS s)) ∧ w = w' := by
 have q := hide (l01Open_calls s w hs);have h1 : openN s ≤ s.size := by
  unfold openN;rw [← bsize];exact (List.takeWhile_sublist _).length_le
 have h2 : ((openN s : Nat) : Int).toNat = openN s := by omega
 have h3 : Hid (namS s = s.extract 0 (openN s)) := rfl;go_enter Tryz.func318, Tryz.ntmps318;go_wp2_with fail;refine q.out.mono ?_;rintro e w1 ⟨rfl, rfl⟩;go_wp2_with fail;go_ret;exact ⟨by rw [h3.out]; rfl, rfl⟩
end Go.Proofs.YtnhomkmfbngmgaaGreatDoor
