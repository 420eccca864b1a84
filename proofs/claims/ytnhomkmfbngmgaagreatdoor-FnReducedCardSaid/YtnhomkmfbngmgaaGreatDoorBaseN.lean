/-
  Lemmas that the law of this claim leans on. Conditions: sizes.
-/
import Derived.Test.YtnhomkmfbngmgaaGreatDoorBaseA
import Derived.Test.YtnhomkmfbngmgaaGreatDoorBaseB
import Derived.Test.YtnhomkmfbngmgaaGreatDoorBaseD
import Derived.Test.YtnhomkmfbngmgaaGreatDoorBaseG
import Derived.Test.YtnhomkmfbngmgaaGreatDoorBaseJ
import Derived.Test.YtnhomkmfbngmgaaGreatDoorBaseM
set_option maxHeartbeats 6400000
set_option maxRecDepth 100000
set_option linter.unusedSimpArgs false
set_option linter.unusedVariables false
namespace Go.Proofs.YtnhomkmfbngmgaaGreatDoor
open Go.ChangeShapes Go.WideShapes Go.ChangeAt Go.RowKit
theorem sE_succ {es : List Ed} {S : List Int} {k : Nat} {x : Nat} {e : Ed} (h : S[k]? = some (x : Int)) (he : es[x]? = some e) : sE es (S.take (k + 1)) = sE es (S.take k) ++ [e] := by
 unfold sE;rw [List.take_add_one, h, List.filterMap_append]
 congr 1
 show List.filterMap _ [(x : Int)] = _
 simp [he]
section
variable {w : World} {N ini : Nat} {A : Option Addr} {n c : Nat} {B : Option Addr} {m d : Nat} {ls : List ByteArray} {es : List Ed}
theorem ofSet_calls (h : SysA w N ini A n B m ls es) (C : Option Addr) (q c2 : Nat) (S : List Int) (lo hi : Nat) (hS : SlI w lo hi C q S) (hq : q ≤ 1048576) (hT : TauS es S) :
  Calls Tryz.prog 257 #[.agg #[.int .i64 (N : Int), .int .i64 (ini : Int), .slice A n c, .slice B m d], .slice C q c2] w fun e w' => ∃ D cD, e = .returned (.agg #[.int .i64 (N : Int), .int .i64 (ini : Int), .slice A n c, .slice D q cD]) ∧ SlE w' w.heap.size w'.heap.size D q (sE es S) ∧ Below w.heap.size w w' := by
 have hEe := hide elem_edge;have hmn := h.many;have hlen := h.se.len;have hlS := hS.len;obtain ⟨w1, hw1⟩ : ∃ w1, w1 = w.alloc (ltsC N ini A n c B m d) := ⟨_, rfl⟩;obtain ⟨w2, hw2⟩ : ∃ w2, w2 = w1.alloc (.cells #[.int .i64 0, .int .i64 0, .slice none 0 0, .slice none 0 0] 27) := ⟨_, rfl⟩;obtain ⟨w0, hw0⟩ : ∃ w0, w0 = w2.alloc (ltsC N ini A n c none 0 0) := ⟨_, rfl⟩;have hB := h.box (c := c) (d := d);rw [← hw1] at hB;have e1 : w1.heap.size = w.heap.size + 1 := by rw [hw1]; exact World.size_alloc _ _
 have e2 : w2.heap.size = w.heap.size + 1 + 1 := by rw [hw2, World.size_alloc, e1]
 obtain ⟨z2a, z2b⟩ : w2.heap.size ≤ w.heap.size + 1 + 1 ∧ w.heap.size + 1 + 1 ≤ w2.heap.size := ⟨by omega, by omega⟩;have hb12 : Below w1.heap.size w1 w2 := by rw [hw2]; exact bR.alloc zR _
 have hb20 : Below w2.heap.size w2 w0 := by rw [hw0]; exact bR.alloc zR _
 have hB2 := hB.below hb12;have hB0 := hB2.below hb20;have kR2 : LtsBox w2 (w.heap.size + 1) 0 0 none 0 0 none 0 0 := by
  have := heap_alloc_new w1 (.cells #[.int .i64 0, .int .i64 0, .slice none 0 0, .slice none 0 0] 27);rw [e1] at this;rw [hw2]; exact this
 have kR0 := kR2.below hb20 (by omega);have kO0 : LtsBox w0 (w2.heap.size) (N : Int) (ini : Int) A n c none 0 0 := by
  rw [hw0]; exact heap_alloc_new w2 _
 have hV0 := hide (LtsVar.begin hB0.bel (by omega) kO0);have hz0 : w2.heap.size < w0.heap.size := kO0.lt;have hAt : Hid (∀ {wx : World} {D : Option Addr} {k cD : Nat} {E : List Ed}, LtsVar w w0 wx (w2.heap.size) (N : Int) (ini : Int) A n c D k cD E → LtsBox wx w.heap.size (N : Int) (ini : Int) A n c B m d ∧ LtsBox wx (w.heap.size + 1) 0 0 none 0 0 none 0 0 ∧ SysA wx N ini A n B m ls es ∧ SlI wx lo hi C q S) := fun {wx D k cD E} hv =>
  ⟨(hv.oth _ (by omega) (by omega)).trans hB0.box, (hv.oth _ (by omega) (by omega)).trans kR0, h.below hv.bel zR, hS.below hv.bel (.inr zR)⟩
 have b0 := hB2.box.c0;have b1 := hB2.box.c1;have b2 := hB2.box.c2;have e1' := hide e1;have e2' := hide e2;clear hB hB2 hB0 hb12 hb20 kR2 kR0 kO0 hS e1 e2;replace h := hide h;go_enter Tryz.func257, Tryz.ntmps257;go_upto_region 1 with fail;rw [show (w.alloc (.cells #[.int .i64 (N : Int), .int .i64 (ini : Int), .slice A n c, .slice B m d] 27)).alloc (.cells #[.int .i64 0, .int .i64 0, .slice none 0 0, .slice none 0 0] 27) = w2 by rw [hw2, hw1]];replace hw1 := hide hw1;replace hw2 := hide hw2;go_upto_region 2 with fail;rw [show w2.alloc (.cells #[.int .i64 (N : Int), .int .i64 (ini : Int), .slice A n c, .slice none 0 0] 27) = w0 from hw0.symm];replace hw0 := hide hw0;clear b0 b1 b2;go_wp2_with fail
 go_loopw [17] (fun v17 wr => ∃ (k cD : Nat) (D : Option Addr), k ≤ q ∧ v17 = .int .i64 (k : Int) ∧ Hid (LtsVar w w0 wr (w2.heap.size) (N : Int) (ini : Int) A n c D k cD (sE es (S.take k)))) (fun v _ => q - (intOf v).toNat)
 case atStart => exact ⟨0, 0, none, Nat.zero_le _, rfl, hV0.out⟩
 case round =>
  obtain ⟨k, cD, D, hk, rfl, hV⟩ := hrel;clear hV0;obtain ⟨hBx, hRx, hSy, hSx⟩ := hAt.out hV.out
  by_cases hlt : k < q
  ·obtain ⟨gS, oS, v, rfl, -, -, -, hx, c0, -⟩ := SlI.get hSx hlt
   obtain ⟨x, f, tg, rfl, hex⟩ := hT.tau v (List.mem_of_getElem? hx);have hxm : x < m := by rw [← hlen]; exact (List.getElem?_eq_some_iff.1 hex).1
   obtain ⟨gE, oE, f', lb, tg', rfl, -, -, hgE, hx2, a0, a1, a2, -⟩ := SlE.get h.out.se hxm;rw [hex] at hx2;injection hx2 with hx2;injection hx2 with y1 hx2;injection hx2 with y2 y3;subst y1 y2 y3;have hsu := hide (sE_succ hx hex);have hgl := hV.out.lt;have hzz := hV.out.size;have hOut := hV.out.box;have hSs : Hid (∀ wx, Below w0.heap.size wr wx → (fun w' : World => w'.cell? ⟨w.heap.size, 3, none⟩ = some (.slice (some ⟨gE, oE, none⟩) m d) ∧ w'.cell? ⟨w2.heap.size, 3, none⟩ = some (.slice D k cD) ∧ w'.cell? ⟨gE, oE + x * 3, none⟩ = some (.int .i64 f) ∧ w'.cell? ⟨gE, oE + x * 3 + 1, none⟩ = some (.int .i64 0) ∧ w'.cell? ⟨gE, oE + x * 3 + 2, none⟩ = some (.int .i64 tg)) wx) := fun wx hb => by
    have hwb : Below w.heap.size w wx := hV.out.bel.trans (hb.mono (by omega));exact ⟨(hBx.below hb (by omega)).c3, (hOut.below hb hgl).c3, (hwb.cell (p := ⟨gE, oE + x * 3, none⟩) hgE).trans a0, (hwb.cell (p := ⟨gE, oE + x * 3 + 1, none⟩) hgE).trans a1, (hwb.cell (p := ⟨gE, oE + x * 3 + 2, none⟩) hgE).trans a2⟩
   have k0 : (0 : Int) ≤ (k : Int) := by omega
   have k1 : (k : Int) < (q : Int) := by omega
   have x0 : (0 : Int) ≤ (x : Int) := by omega
   have x1 : (x : Int) < (m : Int) := by omega
   have hbD : Below w0.heap.size wr wr.drew := bR.drew;have hbA : Hid (Below w0.heap.size wr (wr.drew.alloc (.cells #[.int .i64 f, .int .i64 0, .int .i64 tg] 84))) := hbD.alloc hzz _;have hOa := hide ((hV.out.own.below bR.drew zR).alloc (.cells #[.int .i64 f, .int .i64 0, .int .i64 tg] 84));have hlit := hide (Sl.lit1' (f := ev) wr.drew 84 (f, (0 : Int), tg) #[.int .i64 f, .int .i64 0, .int .i64 tg] rfl 3 _ rfl);have hza : w0.heap.size ≤ (wr.drew.alloc (.cells #[.int .i64 f, .int .i64 0, .int .i64 tg] 84)).heap.size := Nat.le_trans hzz hbA.out.size;clear hSy hSx hx hex hBx hRx hOut a0 a1 a2;go_upto_region 5 with fail;clear c0;refine lateT_begin (S := fun w' => w'.cell? ⟨w.heap.size, 3, none⟩ = some (.slice (some ⟨gE, oE, none⟩) m d) ∧ w'.cell? ⟨w2.heap.size, 3, none⟩ = some (.slice D k cD) ∧ w'.cell? ⟨gE, oE + x * 3, none⟩ = some (.int .i64 f) ∧ w'.cell? ⟨gE, oE + x * 3 + 1, none⟩ = some (.int .i64 0) ∧ w'.cell? ⟨gE, oE + x * 3 + 2, none⟩ = some (.int .i64 tg)) (st := 10) (by kernel_rfl) ?_;have hS0 := hSs.out wr.drew bR.drew;refine tkA _ 0 [10] rfl (Or.inl ⟨by kernel_rfl, by intro w9 hSw; obtain ⟨u0, u1, u2, u3, u4⟩ := hSw; go_simp <;> with_reducible rfl⟩) hS0 ?_;refine tkA _ 1 [10] rfl (Or.inl ⟨by kernel_rfl, by intro w9 hSw; obtain ⟨u0, u1, u2, u3, u4⟩ := hSw; go_simp <;> with_reducible rfl⟩) hS0 ?_;refine tkA _ 2 [10] rfl (Or.inl ⟨by kernel_rfl, by intro w9 hSw; obtain ⟨u0, u1, u2, u3, u4⟩ := hSw; go_simp <;> with_reducible rfl⟩) hS0 ?_;refine tkA _ 3 [10] rfl (Or.inl ⟨by kernel_rfl, by intro w9 hSw; obtain ⟨u0, u1, u2, u3, u4⟩ := hSw; go_simp <;> with_reducible rfl⟩) hS0 ?_;refine tkA _ 4 [10] rfl (Or.inl ⟨by kernel_rfl, by intro w9 hSw; obtain ⟨u0, u1, u2, u3, u4⟩ := hSw; go_simp <;> with_reducible rfl⟩) hS0 ?_;refine tkA _ 5 [10] rfl (Or.inl ⟨by kernel_rfl, by intro w9 hSw; obtain ⟨u0, u1, u2, u3, u4⟩ := hSw; go_simp <;> with_reducible rfl⟩) hS0 ?_;refine tkA _ 6 [10] rfl (Or.inl ⟨by kernel_rfl, by intro w9 hSw; obtain ⟨u0, u1, u2, u3, u4⟩ := hSw; go_simp <;> with_reducible rfl⟩) hS0 ?_;refine lS 7 fun K hK => ?_
   go_simp;refine kP hK (fun _ => hSs.out _ hbA.out) ?_
   clear hK K;refine lS 8 fun K hK => ?_
   refine step_appL (m := 1) (d := 1) (by rfl) (.tmp 22) (.tmp 28) (by rfl) hEe.out flat_ev (by go_simp) hOa.out (by go_simp) hlit.out ?c1 hza ?_
   case c1 => omega
   intro A7 c7 w7 hown7 hgr7 hb7 _;have hb79 := hbA.out.trans hb7;have k7 := hV.out.mid hb79;have k7f := k7.f3;have k7c := k7.c3;have hV7 := hide (hV.out.store hb79 hown7);have hS9 := hide (hSs.out w7 hb79);clear hgr7 hb7 hown7;refine kP hK (fun _ => hS9.out) ?_;clear hK K;refine lS 9 fun K hK => ?_
   go_simp;refine kP hK (fun _ => hS9.out) ?_
   clear hK K;refine lS 10 fun K hK => ?_
   go_simp;refine kP hK nH ?_
   clear hK K;refine lateT_done (by kernel_rfl) ?_ _;rw [← hsu.out] at hV7;go_wp2_with fail;go_roundw
   case rel => exact ⟨k + 1, c7, A7, by omega, by go_num, hV7.out⟩
   case measure => simp [intOf]; omega
  ·obtain rfl : k = q := by omega
   have k1 : ¬ (k : Int) < (k : Int) := by omega
   have hall : S.take k = S := List.take_of_length_le (by omega);rw [hall] at hV;have o0 := hV.out.box.c0;have o1 := hV.out.box.c1;have o2 := hV.out.box.c2;have o3 := hV.out.box.c3;have r0 := hRx.c0;have r1 := hRx.c1;have r2 := hRx.c2;have r3 := hRx.c3;have f0 := hRx.f0;have f1 := hRx.f1;have f2 := hRx.f2;have f3 := hRx.f3;have hVh := hide hV.out;clear hBx hRx hSy hSx hV;go_wp2_with fail
   (try simp only [Exit.inBlock, Exit.then])
   refine bodyPost_ret_by (v := .agg #[.int .i64 (N : Int), .int .i64 (ini : Int), .slice A n c, .slice D k cD]) ?_ rfl ?_
   focus
    rw [results_cell1 rfl];go_simp
   obtain ⟨g1, g2⟩ := hVh.out.done (gR := w.heap.size + 1) (by omega) (by omega) (.int .i64 (N : Int)) (.int .i64 (ini : Int)) (.slice A n c) (.slice D k cD);exact ⟨D, ⟨cD, rfl⟩, g1.more (by omega) zR, g2⟩
end
open Go.Sort
section
variable {w : World} {N : Nat}
def rowAt (R : List (Hd × List Int)) (r : Int) : List Int := ((R.map Prod.snd)[r.toNat]?).getD []
theorem rowAt_of {R : List (Hd × List Int)} {r : Nat} {x : Hd × List Int} (h : R[r]? = some x) : rowAt R (r : Int) = x.2 := by
 unfold rowAt;rw [Int.toNat_natCast, List.getElem?_map, h]
 rfl
theorem rep11_calls {base : Nat} {A : Option Addr} {cR : Nat} {R : List (Hd × List Int)} (h : GrowH w base A N cR R) (hs : ∀ x, x ∈ R → x.1.2.1 ≤ 1048576) (bS bK r : Nat) (v : Int) (hr : r < N)
  (kS : w.heap[bS]? = some (.cells #[.slice A N cR] 162 (0, 0))) (kK : w.heap[bK]? = some (.cells #[.int .i64 v] 2 (0, 0))) :
  Calls Tryz.prog 259 #[.int .i64 (r : Int), .pointer (some ⟨bS, 0, none⟩), .pointer (some ⟨bK, 0, none⟩)] w (Says (!decide (v ∈ rowAt R (r : Int))) w) := by
 obtain ⟨gR, oR, Ah, nh, ch, s, rfl, -, -, hRr, p0, hsl, -⟩ := h.get hr;have hn := hs _ (List.mem_of_getElem? hRr);rw [rowAt_of hRr];have hbD : Below w.heap.size w w.drew := bR.drew;have q1 := hide (containsX_calls v Ah nh ch s w.drew _ _ (hsl.below hbD (.inr zR)) hn);have hSd : Hid ((fun w' : World => w'.cell? ⟨bS, 0, none⟩ = some (.slice (some ⟨gR, oR, none⟩) N cR) ∧ w'.cell? ⟨gR, oR + r, none⟩ = some (.slice Ah nh ch) ∧ w'.cell? ⟨bK, 0, none⟩ = some (.int .i64 v)) w.drew) := ⟨(cell_of_row _ _ 0 _ _ (0, 0) kS).trans rfl, p0, (cell_of_row _ _ 0 _ _ (0, 0) kK).trans rfl⟩;have r0 : (0 : Int) ≤ (r : Int) := by omega
 have r1 : (r : Int) < (N : Int) := by omega
 have hbDh := hide hbD;clear h hs kS kK hsl hRr p0 hbD;go_enter Tryz.func259, Tryz.ntmps259;go_upto_region 1 with fail;refine lateT_begin (S := fun w' => w'.cell? ⟨bS, 0, none⟩ = some (.slice (some ⟨gR, oR, none⟩) N cR) ∧ w'.cell? ⟨gR, oR + r, none⟩ = some (.slice Ah nh ch) ∧ w'.cell? ⟨bK, 0, none⟩ = some (.int .i64 v)) (st := 7) (by kernel_rfl) ?_;have hS0 := hSd.out;refine tkA _ 0 [7] rfl (Or.inl ⟨by kernel_rfl, by intro w9 hSw; obtain ⟨u0, u1, u2⟩ := hSw; go_simp <;> with_reducible rfl⟩) hS0 ?_;refine tkA _ 1 [7] rfl (Or.inl ⟨by kernel_rfl, by intro w9 hSw; obtain ⟨u0, u1, u2⟩ := hSw; go_simp <;> with_reducible rfl⟩) hS0 ?_;refine tkA _ 2 [7] rfl (Or.inl ⟨by kernel_rfl, by intro w9 hSw; obtain ⟨u0, u1, u2⟩ := hSw; go_simp <;> with_reducible rfl⟩) hS0 ?_;refine tkA _ 3 [7] rfl (Or.inl ⟨by kernel_rfl, by intro w9 hSw; obtain ⟨u0, u1, u2⟩ := hSw; go_simp <;> with_reducible rfl⟩) hS0 ?_;refine tkA _ 4 [7] rfl (Or.inl ⟨by kernel_rfl, by intro w9 hSw; obtain ⟨u0, u1, u2⟩ := hSw; go_simp <;> with_reducible rfl⟩) hS0 ?_;refine lS 5 fun K hK => ?_
 go_simp;go_at_call 193
 refine q1.out.mono ?_;rintro e w6 ⟨rfl, rfl⟩;go_wp2_with fail;refine kP hK (fun _ => hS0) ?_;clear hK K;refine lS 6 fun K hK => ?_
 go_simp;refine kP hK (fun _ => hS0) ?_
 clear hK K;refine lS 7 fun K hK => ?_
 go_simp;refine kP hK nH ?_
 clear hK K;refine lateT_done (by kernel_rfl) ?_ _;go_wp2_with fail;go_ret;exact ⟨ret_b rfl, hbDh.out⟩
theorem rep1_calls {base : Nat} {A : Option Addr} {cR : Nat} {R : List (Hd × List Int)} (h : GrowH w base A N cR R) (hs : ∀ x, x ∈ R → x.1.2.1 ≤ 1048576) (bS bX : Nat) (v : Int)
  (kS : w.heap[bS]? = some (.cells #[.slice A N cR] 162 (0, 0))) (X : Option Addr) (q cX lo hi : Nat) (row : List Int) (kX : w.heap[bX]? = some (.cells #[.slice X q cX] 32 (0, 0))) (hX : SlI w lo hi X q row) (hq : q ≤ 1048576) (hr : ∀ r, r ∈ row → 0 ≤ r ∧ r < (N : Int)) :
  Calls Tryz.prog 258 #[.int .i64 v, .pointer (some ⟨bX, 0, none⟩), .pointer (some ⟨bS, 0, none⟩)] w (Says (row.any fun r => !decide (v ∈ rowAt R r)) w) := by
 obtain ⟨w1, hw1⟩ : ∃ w1, w1 = w.alloc (.cells #[.int .i64 v] 2) := ⟨_, rfl⟩;have hb1 : Below w.heap.size w w1 := by rw [hw1]; exact bR.alloc zR _
 have kK : w1.heap[w.heap.size]? = some (.cells #[.int .i64 v] 2 (0, 0)) := by rw [hw1]; exact heap_alloc_new w _
 have kS1 := (hb1.block _ (Array.getElem?_eq_some_iff.1 kS).1).trans kS;have cX1 := (cell_of_row _ _ 0 _ _ (0, 0) ((hb1.block _ (Array.getElem?_eq_some_iff.1 kX).1).trans kX)).trans (show _ = some (Value.slice X q cX) from rfl);have h1 := h.below hb1;have q1 := hide (containsFuncM_calls 259 #[.pointer (some ⟨bS, 0, none⟩), .pointer (some ⟨w.heap.size, 0, none⟩)] (fun r => !decide (v ∈ rowAt R r)) X q cX row w1 lo hi (hX.below hb1 (.inr zR)) hq (fun v W => by kernel_rfl) fun r hr1 W hW => by
  obtain ⟨g1, g2⟩ := hr r hr1;obtain ⟨r, rfl⟩ : ∃ k : Nat, r = (k : Int) := ⟨r.toNat, by omega⟩;exact rep11_calls (h1.below hW) hs bS w.heap.size r v (by omega) ((hW.block _ (Array.getElem?_eq_some_iff.1 kS1).1).trans kS1) ((hW.block _ (Array.getElem?_eq_some_iff.1 kK).1).trans kK))
 have hb1h := hide hb1;clear h h1 hs kS kS1 kK kX hX hb1 hr;go_enter Tryz.func258, Tryz.ntmps258;go_upto_region 1 with fail;rw [show w.alloc (.cells #[.int .i64 v] 2) = w1 from hw1.symm];replace hw1 := hide hw1;go_wp2_with fail;refine q1.out.mono ?_;rintro e w2 ⟨rfl, hb2⟩;go_wp2_with fail;go_ret;exact ⟨rfl, hb1h.out.trans (hb2.mono hb1h.out.size)⟩
end
def RepTo (R : List (Hd × List Int)) (k : Nat) (rp : List Int) : Prop := rp.length = k ∧ ∀ (x : Nat) (r : Hd × List Int), x < k → R[x]? = some r → rp[x]? = (comL (R.map Prod.snd) r.2).head?
theorem RepTo.push {R : List (Hd × List Int)} {k : Nat} {rp : List Int} (h : RepTo R k rp) {r : Hd × List Int} (hr : R[k]? = some r) {v : Int} (hv : (comL (R.map Prod.snd) r.2).head? = some v) : RepTo R (k + 1) (rp ++ [v]) := by
 refine ⟨by rw [List.length_append, h.1]; rfl, fun x r' hx hr' => ?_⟩
 rcases Nat.lt_or_eq_of_le (Nat.le_of_lt_succ hx) with g | rfl
 ·rw [List.getElem?_append_left (by rw [h.1]; exact g)]
  exact h.2 x r' g hr'
 ·rw [hr] at hr'
  cases hr'
  rw [List.getElem?_append_right (by rw [h.1]; exact zR), h.1, Nat.sub_self, hv]
  rfl
section
variable {w : World} {N ini : Nat} {A : Option Addr} {n c : Nat} {B : Option Addr} {m d : Nat} {ls : List ByteArray} {es : List Ed}
theorem representatives_calls (h : SysA w N ini A n B m ls es) (C : Option Addr) (q c2 : Nat) (S : List Int) (lo hi : Nat) (hS : SlI w lo hi C q S) (hq : q ≤ 1048576) (hT : TauS es S) (hC : ConfL es S) :
  Calls Tryz.prog 190 #[.agg #[.int .i64 (N : Int), .int .i64 (ini : Int), .slice A n c, .slice B m d], .slice C q c2] w fun e w' => ∃ D cD rp L, e = .returned (.slice D N cD) ∧ SlI w' w.heap.size w'.heap.size D N rp ∧ RepL es S N L rp ∧ Below w.heap.size w w' := by
 have hEi := hide elem_int;have hmn := h.many;obtain ⟨⟨hN1, hN40⟩, -⟩ := h.bounds;have hed := h.edges;have hval := sE_valid hC hT.up h.ok (by have := h.se.len; omega);obtain ⟨w1, hw1⟩ : ∃ w1, w1 = w.alloc (ltsC N ini A n c B m d) := ⟨_, rfl⟩;have hB := h.box (c := c) (d := d);rw [← hw1] at hB;have q1 := hide (ofSet_calls (c := c) (d := d) hB.sys C q c2 S _ _ (hS.below hB.bel (.inr zR)) hq hT);have b0 := hB.box.c0;have b1 := hB.box.c1;have b2 := hB.box.c2;have b3 := hB.box.c3;have hok := hide h.ok;have hsz := hide h.sz;have hedh := hide hed;replace hB := hide hB;clear h hS hed;go_enter Tryz.func190, Tryz.ntmps190;go_upto_region 1 with fail;rw [show w.alloc (.cells #[.int .i64 (N : Int), .int .i64 (ini : Int), .slice A n c, .slice B m d] 27) = w1 from hw1.symm];replace hw1 := hide hw1;go_wp2_with fail;refine q1.out.mono ?_;rintro e w2 ⟨D, cD, rfl, hD, hb2⟩;have hSy2 : SysA w2 N ini A n D q ls (sE es S) := ⟨(hB.out.below hb2).sys.ss, hD.here', hval, hsz.out⟩;have q2 := hide (internalSetsA_calls hSy2 c cD);have hb12 := hide (hB.out.bel.trans (hb2.mono hB.out.bel.size));clear q1 b0 b1 b2 b3 hD hb2 hSy2;go_wp2_with fail;refine q2.out.mono ?_;rintro e w3 ⟨A', c', R, rfl, hG, hSt, hb3, hasc⟩;have hrow : Hid (∀ x, x ∈ R → x.1.2.1 ≤ 1048576 ∧ ∀ v, v ∈ x.2 → 0 ≤ v ∧ v < (N : Int)) := fun x hx => by
  obtain ⟨i, hi⟩ := List.getElem?_of_mem hx;obtain ⟨g1, g2⟩ := hSt.2 i x hi;refine ⟨by omega, fun v hv => ?_⟩;have heS : EdIn N (sE es S) := fun e hx => hedh.out e (sE_sub hC hx)
  have hnm := ltsV_names hok.out;have h1 := (tau_star heS (labs_nodup hnm.1) (labs_zero hnm.1) (fun e hx => ((ltsV_edge hok.out).1 e (sE_sub hC hx)).2.1)).1 ((g1 v).1 hv);have hiN : i < N := by rw [← hSt.1]; exact (List.getElem?_eq_some_iff.1 hi).1
  have hst : StarR (cS es S) i v.toNat := by
   rw [show cS es S = (fun x y => nE (sE es S) x 0 y) from funext fun x => funext fun y => propext (sE_step hC).symm];exact h1.2
  have := cStar_in hedh.out hst hiN;omega
 obtain ⟨w4, hw4⟩ : ∃ w4, w4 = w3.alloc (.cells #[.slice A' N c'] 162) := ⟨_, rfl⟩;have hb34 : Below w3.heap.size w3 w4 := by rw [hw4]; exact bR.alloc zR _
 have kS := heap_alloc_new w3 (.cells #[.slice A' N c'] 162);rw [← hw4] at kS;have kSl : w3.heap.size < w4.heap.size := (Array.getElem?_eq_some_iff.1 kS).1;have hG4 := hide (hG.below hb34);have hbw4 := hide ((hb12.out.trans (hb3.mono hb12.out.size)).trans (hb34.mono (Nat.le_trans hb12.out.size hb3.size)));have cS4 := (cell_of_row _ _ 0 _ _ (0, 0) kS).trans (show _ = some (Value.slice A' N c') from rfl);have hz43 := hb3.size;have hRowL := hide (RowL.of hC hT.up hok.out hedh.out hSt hasc);have hSth := hide hSt;have hasch := hide hasc;have kSh := hide kS;clear q2 hG hSt hb3 hasc hb34 kS;go_upto_region 2 with fail;rw [show w3.alloc (.cells #[.slice A' N c'] 162) = w4 from hw4.symm];replace hw4 := hide hw4;go_wp2_with fail;clear cS4
 go_loopw [6, 16] (fun v6 v16 wr => ∃ (k cO : Nat) (O : Option Addr) (rp : List Int), k ≤ N ∧ v16 = .int .i64 (k : Int) ∧ v6 = .slice O k cO ∧ Hid (Own 1 iv wr w4.heap.size 2 O k cO rp) ∧ Hid (RepTo R k rp) ∧ Hid (Below w4.heap.size w4 wr)) (fun _ v _ => N - (intOf v).toNat)
 case atStart => exact ⟨0, 0, none, [], Nat.zero_le _, rfl, rfl, Own.nil_ _ _ _, ⟨rfl, fun x r hx => absurd hx (Nat.not_lt_zero _)⟩, bR⟩
 case round =>
  obtain ⟨k, cO, O, rp, hk, rfl, rfl, hO, hRp, hb⟩ := hrel
  by_cases hlt : k < N
  ·have hzr := hb.out.size
   have hGr := hG4.out.below hb.out;obtain ⟨gR, oR, Ah, nh, ch, s, rfl, -, -, hRk, p0, hsl, -⟩ := hGr.get hlt;obtain ⟨hn1, hn2⟩ := hrow.out _ (List.mem_of_getElem? hRk);have hn1 : nh ≤ 1048576 := hn1;have kSr := (hb.out.block _ kSl).trans kSh.out;obtain ⟨w5, hw5⟩ : ∃ w5, w5 = wr.alloc (.cells #[.slice Ah nh ch] 32) := ⟨_, rfl⟩;have hb5 : Below wr.heap.size wr w5 := by rw [hw5]; exact bR.alloc zR _
   have kX := heap_alloc_new wr (.cells #[.slice Ah nh ch] 32);rw [← hw5] at kX;have kXl : wr.heap.size < w5.heap.size := (Array.getElem?_eq_some_iff.1 kX).1;have cX := (cell_of_row _ _ 0 _ _ (0, 0) kX).trans (show _ = some (Value.slice Ah nh ch) from rfl);have hs5 := hsl.below hb5 (.inr zR);have q3 := hide (cloneT_calls Ah nh ch s w5 _ _ hs5 hn1);have k0 : (0 : Int) ≤ (k : Int) := by omega
   have k1 : (k : Int) < (N : Int) := by omega
   have hs5h := hide hs5;have hGrh := hide (hGr.below hb5);have kS5 := hide ((hb5.block _ (Nat.lt_of_lt_of_le kSl hzr)).trans kSr);have kXh := hide kX;have hRkh := hide hRk;have hb5h := hide hb5;have hO5 := hide (hO.out.below hb5 zR);clear hGr hsl hs5 kSr kX hRk hb5 hO;go_upto_region 6 with fail;rw [show wr.alloc (.cells #[.slice Ah nh ch] 32) = w5 from hw5.symm];replace hw5 := hide hw5;clear p0;go_wp2_with fail;refine q3.out.mono ?_;rintro e w6 ⟨A6, c6, rfl, hO6, hb6⟩;have hcap := hO6.le_cap;have hz56 := hb6.size;have q4 := hide (deleteFuncI_calls 258 #[.pointer (some ⟨wr.heap.size, 0, none⟩), .pointer (some ⟨w3.heap.size, 0, none⟩)] (fun v => s.any fun r => !decide (v ∈ rowAt R r)) A6 nh c6 s w6 w5.heap.size (hO6.sl flat_iv) hcap hn1 hz56 (fun v W => by kernel_rfl) fun v W hv hW => by
    have hbW : Below w5.heap.size w5 W := hb6.trans hW;exact rep1_calls (hGrh.out.below hbW) (fun x hx => (hrow.out x hx).1) w3.heap.size wr.heap.size v ((hbW.block _ (by omega)).trans kS5.out) Ah nh ch _ _ s ((hbW.block _ kXl).trans kXh.out) (hs5h.out.below hbW (.inr zR)) hn1 hn2)
   have hb56 := hide hb6;clear q3 hO6 hb6 cX;go_wp2_with fail;refine q4.out.mono ?_;rintro e w7 ⟨m7, c7, rfl, hm7, hc7, hS7, hb7⟩;have hb57 := hide (hb56.out.trans hb7)
   -- the list is not empty
   have hcom : s.filter (fun x => !(s.any fun r => !decide (x ∈ rowAt R r))) = comL (R.map Prod.snd) s := rfl;rw [hcom] at hS7;obtain ⟨v, hv⟩ := hRowL.out.ne hedh.out (hC.conf hedh.out) hlt (show (R.map Prod.snd)[k]? = some s by rw [List.getElem?_map, hRkh.out]; rfl);have hm0 : 0 < m7 := by
    have := hS7.len
    cases hcl : comL (R.map Prod.snd) s with
    | nil => rw [hcl] at hv; cases hv
    | cons a l => rw [hcl] at this; simp at this; omega
   obtain ⟨g7, o7, x7, rfl, -, -, -, hx7, p7, -⟩ := SlI.get hS7 hm0;rw [Nat.add_zero] at p7;have e7 : x7 = v := by
    rw [List.head?_eq_getElem?] at hv;rw [hv] at hx7;exact (Option.some.inj hx7).symm
   subst e7;have hO7 := hide (hO5.out.below hb57.out zR);have hRp2 := hide (hRp.out.push hRkh.out hv);have hza : ∀ o, w4.heap.size ≤ (w7.alloc o).heap.size := fun o => by rw [World.size_alloc]; have := hb57.out.size; omega
   have hb47 : Hid (Below w4.heap.size w4 w7) := (hb.out.trans (hb5h.out.mono hzr)).trans (hb57.out.mono (by omega));have z0 : (0 : Int) < (m7 : Int) := by omega
   have hv' := hide hv;replace hx7 := hide hx7;have hz47 := hb47.out.size;replace hS7 := hide hS7;replace hb7 := hide hb7;clear q4 hv;go_wp2_with (first | (at_builtin; (with_reducible refine wpList_app rfl (.tmp 24) (.tmp 28) rfl hEi.out flat_iv rfl (hO7.out.alloc _) rfl (Sl.lit1' w7 2 x7 _ rfl 1 _ ?d0) ?d1 (hza _) ?_); rotate_right; intro O8 c8 w8 hown8 hgr8 hb8 _))
   case d0 => rfl
   case d1 => omega
   have hb48 := hide ((hb47.out.alloc hz47 (.cells #[.int .i64 x7] 2)).trans hb8);have hO8 := hide hown8;clear hown8 hgr8 hb8;go_wp2_with fail;go_roundw
   case rel => exact ⟨k + 1, c8, O8, _, by omega, by go_num, rfl, hO8.out, hRp2.out, hb48.out⟩
   case measure => simp [intOf]; omega
  ·obtain rfl : k = N := by omega
   have k1 : ¬ (k : Int) < (k : Int) := by omega
   have hRL := hide (RepL.of hRowL.out hRp.out.1 fun x r hx => hRp.out.2 x r (by rw [← hSth.out.1]; exact (List.getElem?_eq_some_iff.1 hx).1) hx);have hbF := hide (hbw4.out.trans (hb.out.mono hbw4.out.size));have hslF := hide ((hO.out.sl flat_iv).more hbw4.out.size zR);go_wp2_with fail;go_ret;exact ⟨O, ⟨cO, rfl⟩, rp, hslF.out, ⟨_, hRL.out⟩, hbF.out⟩
end
end Go.Proofs.YtnhomkmfbngmgaaGreatDoor
namespace Go.Proofs.YtnhomkmfbngmgaaGreatDoor
open Go.ChangeShapes Go.WideShapes Go.ChangeAt Go.RowKit
theorem sortedSet_calls (A : Option Addr) (n c : Nat) (l : List Int) (w : World) (lo hi : Nat) (h : SlI w lo hi A n l) (hn : n ≤ 1048576) :
  Calls Tryz.prog 191 #[.slice A n c] w fun e w' => ∃ A' n' c', e = .returned (.slice A' n' c') ∧ Own 1 iv w' w.heap.size 2 A' n' c' (Lib.compact (sortI l)) ∧ n' ≤ n ∧ Below w.heap.size w w' := by
 have q0 := hide (cloneT_calls A n c l w lo hi h hn);have hlen := h.len;clear h;go_enter Tryz.func191, Tryz.ntmps191;go_wp2_with fail;refine q0.out.mono ?_;rintro e w0 ⟨A0, c0, rfl, hown, hb0⟩;have q1 := hide (sortI_calls hown (by omega));have hz0 := hb0.size;go_wp2_with fail;refine q1.out.mono ?_;rintro e w1 ⟨rfl, hs1, hg1⟩;have hbs1 := hown.grown_below hg1 zR hz0;have q2 := hide (compactI_calls hs1 (by omega));have hw1 : w.heap.size ≤ w1.heap.size := Nat.le_trans hz0 hbs1.size;have hl2 : (Lib.compact (sortI l)).length ≤ n := by
  have h1 := compact_len (sortI l);rw [sortI_len] at h1;omega
 replace hs1 := hide hs1;replace hbs1 := hide hbs1;clear hg1;go_wp2_with fail;refine q2.out.mono ?_;rintro e w2 ⟨rfl, hs2, hg2⟩;have hbs2 := hide (hs1.out.grown_below hg2 zR hw1);replace hs2 := hide hs2;clear hg2;go_wp2_with fail;go_ret;exact ⟨_, _, _, rfl, hs2.out, hl2, (hb0.trans hbs1.out).trans hbs2.out⟩
end Go.Proofs.YtnhomkmfbngmgaaGreatDoor
