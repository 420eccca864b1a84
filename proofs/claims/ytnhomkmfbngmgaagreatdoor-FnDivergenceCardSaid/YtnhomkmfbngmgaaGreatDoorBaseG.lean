/-
  Lemmas that the law of this claim leans on. Conditions: sizes.
-/
import Derived.Test.YtnhomkmfbngmgaaGreatDoorBaseA
import Derived.Test.YtnhomkmfbngmgaaGreatDoorBaseB
import Derived.Test.YtnhomkmfbngmgaaGreatDoorBaseC
import Derived.Test.YtnhomkmfbngmgaaGreatDoorBaseD
import Derived.Test.YtnhomkmfbngmgaaGreatDoorBaseE
import Derived.Test.YtnhomkmfbngmgaaGreatDoorBaseF
set_option maxHeartbeats 6400000
set_option maxRecDepth 100000
set_option linter.unusedSimpArgs false
set_option linter.unusedVariables false
namespace Go.Proofs.YtnhomkmfbngmgaaGreatDoor
open Go.ChangeShapes Go.WideShapes Go.ChangeAt Go.RowKit
def LtsBox (w : World) (g : Nat) (st ini : Int) (A : Option Addr) (n c : Nat) (B : Option Addr) (m d : Nat) : Prop := w.heap[g]? = some (.cells #[.int .i64 st, .int .i64 ini, .slice A n c, .slice B m d] 27 (0, 0))
section
variable {w : World} {g : Nat} {st ini : Int} {A : Option Addr} {n c : Nat} {B : Option Addr} {m d : Nat} (h : LtsBox w g st ini A n c B m d)
include h
theorem LtsBox.c0 : w.cell? ⟨g, 0, none⟩ = some (.int .i64 st) := cR 0 h
theorem LtsBox.c1 : w.cell? ⟨g, 1, none⟩ = some (.int .i64 ini) := cR 1 h
theorem LtsBox.c2 : w.cell? ⟨g, 2, none⟩ = some (.slice A n c) := cR 2 h
theorem LtsBox.c3 : w.cell? ⟨g, 3, none⟩ = some (.slice B m d) := cR 3 h
theorem LtsBox.f0 : w.frozen? ⟨g, 0, none⟩ = false := frozen_of_row _ _ 0 _ _ h
theorem LtsBox.f1 : w.frozen? ⟨g, 1, none⟩ = false := frozen_of_row _ _ 1 _ _ h
theorem LtsBox.f2 : w.frozen? ⟨g, 2, none⟩ = false := frozen_of_row _ _ 2 _ _ h
theorem LtsBox.f3 : w.frozen? ⟨g, 3, none⟩ = false := frozen_of_row _ _ 3 _ _ h
theorem LtsBox.lt : g < w.heap.size := (Array.getElem?_eq_some_iff.1 h).1
theorem LtsBox.only {lo hi : Nat} {w' : World} (g2 : Only lo hi w w') (hd : g < lo ∨ hi ≤ g) : LtsBox w' g st ini A n c B m d := (g2.block g h.lt hd).trans h
theorem LtsBox.below {K : Nat} {w' : World} (g2 : Below K w w') (hd : g < K) : LtsBox w' g st ini A n c B m d := (g2.block g hd).trans h
end
theorem ltsV_edge {st ini : Int} {ls : List ByteArray} {es : List Ed} (h : ltsV (st, ini, ls, es) = true) : (∀ e, e ∈ es → (0 ≤ e.1 ∧ e.1 < st) ∧ (0 ≤ e.2.1 ∧ e.2.1 < (ls.length : Int)) ∧ 0 ≤ e.2.2 ∧ e.2.2 < st) ∧ (1 ≤ st ∧ st ≤ 40) ∧ (0 ≤ ini ∧ ini < st) := by
 rw [ltsV_eq] at h;simp only [Bool.and_eq_true, decide_eq_true_eq] at h;obtain ⟨⟨h1, h2, h3, h4⟩, h5⟩ := h;have h1 := inB_true.1 h1;have h2 := inB_true.1 h2;refine ⟨fun e he => ?_, by omega, by omega⟩;obtain ⟨k, hk⟩ := List.getElem?_of_mem he;have hkl := (List.getElem?_eq_some_iff.1 hk).1;obtain ⟨f, lb, t⟩ := e;have hok := allK_get h5 hkl;have key : ∀ {b : Bool}, ((inB f 0 (st - 1) && (inB t 0 (st - 1) && inB lb 0 ((ls.length : Int) - 1))) && b) = true → (0 ≤ f ∧ f < st) ∧ (0 ≤ lb ∧ lb < (ls.length : Int)) ∧ 0 ≤ t ∧ t < st := fun h => by
  simp only [Bool.and_eq_true] at h;obtain ⟨⟨g1, g2, g3⟩, _⟩ := h;have g1 := inB_true.1 g1;have g2 := inB_true.1 g2;have g3 := inB_true.1 g3;omega
 by_cases k0 : k = 0
 ·subst k0
  rw [okE_zero hk] at hok;exact key (b := true) (by rw [Bool.and_true]; exact hok)
 ·obtain ⟨r, hr⟩ : ∃ r, es[k - 1]? = some r := ⟨_, List.getElem?_eq_getElem (by omega)⟩
  rw [okE_at hk (by omega) hr] at hok;exact key hok
theorem l15DrawOk_calls (b N : Nat) (w : World) (h : SrcW w b N) (hN : N ≤ 600000000) :
  Calls Tryz.prog 49 #[.pointer (some ⟨b, 0, none⟩)] w (DrawnG 7 64 2000 b N w) := by
 have hEe := hide elem_edge;have hbl := h.lt;have hon0 := (Only.refl b (b + 1) w).alloc' (.cells #[.int .i64 0, .int .i64 0, .slice none 0 0, .slice none 0 0] 27);have k8 := heap_alloc_new w (.cells #[.int .i64 0, .int .i64 0, .slice none 0 0, .slice none 0 0] 27);have hS0 := h.alloc (.cells #[.int .i64 0, .int .i64 0, .slice none 0 0, .slice none 0 0] 27);have hz0 : w.heap.size < (w.alloc (.cells #[.int .i64 0, .int .i64 0, .slice none 0 0, .slice none 0 0] 27)).heap.size := by simp
 obtain ⟨wA, hwA⟩ : ∃ wA, wA = w.alloc (.cells #[.int .i64 0, .int .i64 0, .slice none 0 0, .slice none 0 0] 27) := ⟨_, rfl⟩;rw [← hwA] at hon0 k8 hS0 hz0;have q1 := hide (l11DrawOk_calls b N wA hS0 (by omega));replace hon0 := hide hon0;replace k8 := hide k8;clear h hS0;go_enter Tryz.func49, Tryz.ntmps49;go_upto_region 1 with fail;rw [← hwA];replace hwA := hide hwA;go_wp2_with fail;refine q1.out.mono ?_;rintro e w1 ⟨st, ini, A, n, c, B, m, d, ts, es, rfl, hA1, hB1, hv, hst7, hm60, hn6, hD, hs1, hon1⟩;obtain ⟨hed, hst40, hini⟩ := ltsV_edge hv;have hlA := hA1.len;have hlB := hB1.len;rw [hlA] at hed;have hnpos : 0 < n := by have := (List.getElem?_eq_some_iff.1 (joi_head ts)).1; omega
 replace hed := hide hed;have hbl1 : b < w1.heap.size := hs1.lt;have hbw1 := (Below.refl w1.heap.size w1).alloc zR (.cells #[.int .i64 (st : Int), .int .i64 (ini : Int), .slice A n c, .slice B m d] 27);have hbox := heap_alloc_new w1 (.cells #[.int .i64 (st : Int), .int .i64 (ini : Int), .slice A n c, .slice B m d] 27);have hz2 : w1.heap.size + 1 = (w1.alloc (.cells #[.int .i64 (st : Int), .int .i64 (ini : Int), .slice A n c, .slice B m d] 27)).heap.size := by simp
 obtain ⟨w2, hw2⟩ : ∃ w2, w2 = w1.alloc (.cells #[.int .i64 (st : Int), .int .i64 (ini : Int), .slice A n c, .slice B m d] 27) := ⟨_, rfl⟩;rw [← hw2] at hbw1 hbox hz2;have hz12 : w1.heap.size < w2.heap.size := by omega
 have hbox2 : Hid (LtsBox w2 w1.heap.size (st : Int) (ini : Int) A n c B m d) := hbox;have hA2 := hide (hA1.below hbw1 (.inl zR));have hB2 := hide (hB1.below hbw1 (.inl zR));have hs2 := hs1.below hbw1 hbl1;have hon2 := hide (hon1.belowAt hbw1 hon1.size);have hE0 : Hid (Own 3 ev (w2.alloc (.cells #[] 84)) w2.heap.size 84 (some ⟨w2.heap.size, 0, none⟩) 0 0 ([] : List Ed)) := Own.made (α := Ed) (size := 3) (f := ev) w2 84 zR;have hs3 := hide (hs2.alloc (.cells #[] 84));have hon3 := hide ((Only.refl b (b + 1) w2).alloc' (.cells #[] 84));have hbl2 : b < w2.heap.size := by omega
 have hz1 : wA.heap.size ≤ w1.heap.size := hon1.size;replace hz2 := hide hz2;replace hv := hide hv;replace hD := hide hD;obtain ⟨hst1, -⟩ := hst40;obtain ⟨hini0, hini1⟩ := hini;clear q1 hA1 hB1 hs1 hs2 hon1 hbox hbw1;go_upto_region 2 with fail;rw [← hw2];replace hw2 := hide hw2;go_wp2_with fail
 go_loopw [4, 5] (fun v4 v5 wr => ∃ (k cc : Nat) (E : Option Addr) (es1 : List Ed), k ≤ m ∧ v5 = .int .i64 (k : Nat) ∧ v4 = .slice E k cc ∧ Hid (Own 3 ev wr w2.heap.size 84 E k cc es1) ∧ Hid (EdD st n es1) ∧ Hid (SrcW wr b (N + 1000 + 2 * k)) ∧ Hid (Only b (b + 1) w2 wr)) (fun _ v _ => m - (intOf v).toNat)
 case atStart => exact ⟨0, 0, _, [], Nat.zero_le _, rfl, rfl, hE0.out, EdD.start _ _, hs3.out, hon3.out⟩
 case round =>
  clear hE0 hs3 hon3;obtain ⟨k, cc, E, es1, hk, rfl, rfl, hO, hEd, hS, hon⟩ := hrel;have hbox := hide (hbox2.out.only hon.out (.inr (by omega)));have hzr := hon.out.size
  by_cases hlt : k < m
  ·have k0 : (0 : Int) ≤ (k : Int) := by omega
   have k1 : (k : Int) < (m : Int) := by omega
   obtain ⟨gb, ob, f, lb, t, rfl, -, -, hgb, hx, x0, x1, x2, -⟩ := SlE.get (hB2.out.only hon.out (.inr (by omega))) hlt;have hin := hed.out _ (List.mem_of_getElem? hx)
   (try dsimp only at hin)
   have b3 := hbox.out.c3;have hbx := heap_alloc_new wr (.cells #[.int .i64 f, .int .i64 lb, .int .i64 t] 84);have hOE := hO.out.alloc (.cells #[.int .i64 f, .int .i64 lb, .int .i64 t] 84);have hSE := hS.out.alloc (.cells #[.int .i64 f, .int .i64 lb, .int .i64 t] 84);have honE := (Only.refl b (b + 1) wr).alloc' (.cells #[.int .i64 f, .int .i64 lb, .int .i64 t] 84);obtain ⟨wE, hwE⟩ : ∃ wE, wE = wr.alloc (.cells #[.int .i64 f, .int .i64 lb, .int .i64 t] 84) := ⟨_, rfl⟩;rw [← hwE] at hbx hOE hSE honE;obtain ⟨be, hbe⟩ : ∃ be, be = wr.heap.size := ⟨_, rfl⟩;rw [← hbe] at hbx;obtain ⟨wO, hwO⟩ : ∃ wO : World, wO = wr := ⟨_, rfl⟩;have hbel : be < wE.heap.size := (Array.getElem?_eq_some_iff.1 hbx).1;have q2 := hide (one_calls b _ 3 wE hSE (by omega));replace hbx := hide hbx;replace hOE := hide hOE;replace honE := hide honE;clear hx hSE;go_upto_region 7 with fail;rw [← hwE, ← hbe];replace hwE := hide hwE;have hbe2 : w2.heap.size ≤ be := by rw [hbe]; exact hzr
   have hber : wr.heap.size ≤ be := Nat.le_of_eq hbe.symm;replace hbe := hide hbe;clear x0 x1 x2 b3 hwO;go_upto_if 24 with (first | (go_at_call 92; (with_reducible refine q2.out.mono ?_); rintro e w5 ⟨yes, rfl, hs5⟩; replace hs5 := hide hs5))
   go_cut [] (fun wx => ∃ lb2 : Int, Hid (0 ≤ lb2 ∧ lb2 < (n : Int)) ∧ Hid (wx.heap[be]? = some (.cells #[.int .i64 f, .int .i64 lb2, .int .i64 t] 84 (0, 0))) ∧ Hid (Own 3 ev wx w2.heap.size 84 E k cc es1) ∧ Hid (SrcW wx b (N + 1000 + 2 * k + 2)) ∧ Hid (Only b (b + 1) wr wx))
   case first =>
    have hb5 : w5.heap[be]? = _ := (hs5.out.only.block be hbel (by omega)).trans hbx.out;have hO5 := hide (hOE.out.keep (w' := w5) fun g e => hs5.out.only.block g (hOE.out.lt g e).2 (by have := (hOE.out.lt g e).1; omega));have hon5 := hide (honE.out.trans' hs5.out.only)
    cases yes with
    | false =>
     go_wp2_with fail;go_meet
     exact ⟨lb, hin.2.1, hb5, hO5.out, hs5.out.src, hon5.out⟩
    | true =>
     have y1 : w5.cell? ⟨be, 1, none⟩ = some (.int .i64 lb) := cR 1 hb5;have z1 : w5.frozen? ⟨be, 1, none⟩ = false := frozen_of_row _ _ 1 _ _ hb5;have hb6 : Hid ((w5.setCell ⟨be, 1, none⟩ (.int .i64 0)).heap[be]? = some (.cells #[.int .i64 f, .int .i64 0, .int .i64 t] 84 (0, 0))) := heap_setCell_same w5 be 1 _ _ (.int .i64 0) hb5;have hO6 := hide (hO5.out.keep (w' := w5.setCell ⟨be, 1, none⟩ (.int .i64 0)) fun g e => Below.heap_setCell _ _ _ _ (by
      have := (hO.out.lt g e).2
      show g ≠ be
      omega))
     have hS6 := hide (hs5.out.src.setNew (p := ⟨be, 1, none⟩) (by show b < be; omega) (.int .i64 0));have hon6 := hide (hon5.out.setNew (p := ⟨be, 1, none⟩) hber (.int .i64 0));replace hb5 := hide hb5;go_wp2_with fail;go_meet;exact ⟨0, by show _ ∧ _; omega, hb6.out, hO6.out, hS6.out, hon6.out⟩
   case rest =>
    clear hOE honE q2 hO hS hbx;obtain ⟨lb2, hlb2, hbx, hO, hS, honC⟩ := hcut;have hon6 := hide (hon.out.trans' honC.out);have y0 : wc.cell? ⟨be, 0, none⟩ = some (.int .i64 f) := cR 0 hbx.out;have y1 : wc.cell? ⟨be, 1, none⟩ = some (.int .i64 lb2) := cR 1 hbx.out;have y2 : wc.cell? ⟨be, 2, none⟩ = some (.int .i64 t) := cR 2 hbx.out;have hz6 := hon6.out.size;have hza : w2.heap.size ≤ (wc.alloc (.cells #[.int .i64 f, .int .i64 lb2, .int .i64 t] 84)).heap.size := by rw [World.size_alloc]; omega
    have hOa := hide (hO.out.alloc (.cells #[.int .i64 f, .int .i64 lb2, .int .i64 t] 84));have hSa := hide (hS.out.alloc (.cells #[.int .i64 f, .int .i64 lb2, .int .i64 t] 84));have hona := hide (hon6.out.alloc' (.cells #[.int .i64 f, .int .i64 lb2, .int .i64 t] 84));have hrow := hide (fun q (e : (Value.slice E k cc).ownBlock = some q) => (hOa.out.lt q e).1);have hEd2 := hide (hEd.out.app (f := f) (l := lb2) (t := t) hin.1 hlb2.out hin.2.2);clear hO hS hon honC hon6 hEd hz6;go_wp2_with (first | (at_builtin; (with_reducible refine wpList_app rfl (.tmp 26) (.tmp 28) rfl hEe.out flat_ev rfl hOa.out rfl (Sl.lit1' wc 84 (f, lb2, t) _ rfl 3 _ ?d0) ?d1 hza ?_); rotate_right; intro A6 c6 w6 hown6 hgr6 hb6 hat6))
    case d0 => rfl
    case d1 => omega
    have hS6 := hide ((hSa.out.grow hgr6 (fun q e => by have := hrow.out q e; omega)).more (show N + 1000 + 2 * k + 2 ≤ N + 1000 + 2 * (k + 1) by omega));have hon6 := hide (hona.out.grow hgr6 (fun q e => hrow.out q e));replace hown6 := hide hown6;clear hgr6 hb6 hat6 hOa hSa hona hrow y0 y1 y2;go_wp2_with fail;go_roundw
    case rel => exact ⟨k + 1, c6, A6, _, by omega, by go_num, rfl, hown6.out, hEd2.out, hS6.out, hon6.out⟩
    case measure => simp [intOf]; omega
  ·obtain rfl : k = m := by omega
   have k1 : ¬ (k : Int) < (k : Int) := by omega
   obtain ⟨wL, rfl⟩ : ∃ wL : World, wL = wr := ⟨_, rfl⟩;have b3 := hbox.out.c3;have q3 := hide (pick_calls b _ 3 wL hS.out (by omega));go_wp2_with fail;refine q3.out.mono ?_;rintro e w5 ⟨r0, rfl, r00, r01, hs5⟩;obtain ⟨r, rfl⟩ : ∃ r : Nat, r0 = (r : Int) := ⟨r0.toNat, by omega⟩;have hr2 : r ≤ 2 := by omega
   have hO5 := hide (hO.out.keep (w' := w5) fun g e => hs5.only.block g (hO.out.lt g e).2 (by have := (hO.out.lt g e).1; omega));have hon5 := hide (hon.out.trans' hs5.only);have hS5 := hide (hs5.src.more (show N + 1000 + 2 * k + 2 ≤ N + 1200 + 10 * (2 - r) by omega));clear q3 hs5 hO hon hS r00 r01 b3 hbox;go_wp2_with fail
   go_loopw [4, 7] (fun v4 v7 wr => ∃ (r mm cc : Nat) (E : Option Addr) (es1 : List Ed), r ≤ 2 ∧ v7 = .int .i64 (r : Nat) ∧ v4 = .slice E mm cc ∧ mm ≤ 62 - r ∧ Hid (Own 3 ev wr w2.heap.size 84 E mm cc es1) ∧ Hid (EdD st n es1) ∧ Hid (SrcW wr b (N + 1200 + 10 * (2 - r))) ∧ Hid (Only b (b + 1) w2 wr)) (fun _ v _ => (intOf v).toNat)
   case atStart => exact ⟨r, k, _, _, _, hr2, rfl, rfl, by omega, hO5.out, hEd.out, hS5.out, hon5.out⟩
   case round =>
    clear hO5 hon5 hS5 hEd hr2;obtain ⟨r, mm, cc, E, es1, hr, rfl, rfl, hmm, hO, hEd, hS, hon⟩ := hrel;have hbox := hide (hbox2.out.only hon.out (.inr (by omega)));have hzr := hon.out.size
    by_cases hpos : 0 < r
    ·have p1 : (0 : Int) < (r : Int) := by omega
     obtain ⟨NN, hNN⟩ : ∃ NN, N + 1200 + 10 * (2 - r) = NN := ⟨_, rfl⟩;rw [hNN] at hS;have hNNb : NN ≤ N + 2000 := by omega
     replace hNN := hide hNN;have q1 := hide (pick_calls b NN (st : Int) wr.drew hS.out.drew (by omega));go_upto_region 13 with fail
     focus
      refine lateT_begin (S := fun w' => w'.cell? ⟨w1.heap.size, 0, none⟩ = some (.int .i64 (st : Int))) (st := 12) (by kernel_rfl) ?_;have hS0 : (fun w' : World => w'.cell? ⟨w1.heap.size, 0, none⟩ = some (.int .i64 (st : Int))) wr.drew := hbox.out.c0;refine tkB 0 [12] hS0 ?_;refine tkB 1 [12] hS0 ?_;refine tkB 2 [12] hS0 ?_;refine tkB 3 [12] hS0 ?_;refine tkB 5 [12] hS0 ?_;refine tkB 6 [12] hS0 ?_;refine tkB 7 [12] hS0 ?_;refine lS 4 fun K hK => ?_
      go_simp;go_at_call 84
      refine q1.out.mono ?_;rintro e w5 ⟨f, rfl, f0, f1, h5⟩;have hb5 := hide (hbox.out.only (w := wr.drew) h5.only (.inr (by omega)));have k5 := hb5.out.c0;have q2 := hide (pick_calls b _ (st : Int) w5 h5.src (by omega));replace h5 := hide h5;clear q1;go_wp2_with fail;refine kP hK (fun _ => k5) ?_;clear hK K;refine lS 8 fun K hK => ?_
      go_simp;go_at_call 84
      refine q2.out.mono ?_;rintro e w6 ⟨tg, rfl, t0, t1, h6⟩;have hb6 := hide (hb5.out.only h6.only (.inr (by omega)));have k6 := hb6.out.c0;replace h6 := hide (h5.out.trans h6);have hO6 := hide (hO.out.keep (w' := w6) fun g e => h6.out.only.block (w := wr.drew) g (hO.out.lt g e).2 (by have := (hO.out.lt g e).1; omega));have hon6 := hide (hon.out.drew'.trans' h6.out.only);have hz6 := hon6.out.size;have hza : w2.heap.size ≤ (w6.alloc (.cells #[.int .i64 f, .int .i64 0, .int .i64 tg] 84)).heap.size := by rw [World.size_alloc]; omega
      have hOa := hide (hO6.out.alloc (.cells #[.int .i64 f, .int .i64 0, .int .i64 tg] 84));have hSa := hide (h6.out.src.alloc (.cells #[.int .i64 f, .int .i64 0, .int .i64 tg] 84));have hona := hide (hon6.out.alloc' (.cells #[.int .i64 f, .int .i64 0, .int .i64 tg] 84));have hbxa := hide (hb6.out.below ((Below.refl w6.heap.size w6).alloc zR (.cells #[.int .i64 f, .int .i64 0, .int .i64 tg] 84)) hb6.out.lt);have ka := hbxa.out.c0;have hrow := hide (fun q (e : (Value.slice E mm cc).ownBlock = some q) => (hOa.out.lt q e).1);have hEd2 := hide (hEd.out.app (f := f) (l := 0) (t := tg) (by omega) (by omega) (by omega));have hlit := hide (Sl.lit1' (f := ev) w6 84 (f, (0 : Int), tg) #[.int .i64 f, .int .i64 0, .int .i64 tg] rfl 3 _ rfl);have hsz : (mm + 1) * 24 ≤ 140737488355328 := by omega
      clear q2 h5 hO hon hS hEd;go_wp2_with fail;refine kP hK (fun _ => k6) ?_;clear hK K;refine lS 9 fun K hK => ?_
      go_simp;refine kP hK (fun _ => k6) ?_
      clear hK K;refine lS 10 fun K hK => ?_
      go_simp;refine kP hK (fun _ => ka) ?_
      clear hK K;refine lS 11 fun K hK => ?_
      refine step_appL (m := 1) (d := 1) (by rfl) (.tmp 36) (.tmp 46) (by rfl) hEe.out flat_ev (by go_simp) hOa.out (by go_simp) hlit.out hsz hza ?_;intro A6 c6 w7 hown7 hgr7 hb7 hat7;have hS7 := hide (hSa.out.grow hgr7 (fun q e => by have := hrow.out q e; omega));have hon7 := hide (hona.out.grow hgr7 (fun q e => hrow.out q e));have hbx7 := hide (hbxa.out.below hb7 (by omega));have k7 := hbx7.out.c0;replace hown7 := hide hown7;clear hgr7 hb7 hat7;refine kP hK (fun _ => k7) ?_;clear hK K;refine lS 12 fun K hK => ?_
      go_simp;refine kP hK nH ?_
      clear hK K;refine lateT_done (by kernel_rfl) ?_ _;obtain ⟨r2, rfl⟩ : ∃ r2, r = r2 + 1 := ⟨r - 1, by omega⟩;have hS8 := hide (hS7.out.more (show NN + 2 + 2 ≤ N + 1200 + 10 * (2 - r2) by have := hNN.out; omega));go_wp2_with fail;go_roundw
      case rel => exact ⟨r2, mm + 1, c6, A6, _, by omega, by go_num, rfl, by omega, hown7.out, hEd2.out, hS8.out, hon7.out⟩
      case measure => simp [intOf]
    ·obtain rfl : r = 0 := by omega
     have p1 : ¬ (0 : Int) < ((0 : Nat) : Int) := by omega
     have c0 := hbox.out.c0;have c1 := hbox.out.c1;have c2 := hbox.out.c2;have hmmL := hO.out.len;have r2 := hide (l11Make_calls (st : Int) (ini : Int) A n c (joiF ts) E mm cc es1 wr ((hA2.out.only hon.out (.inr (by omega))).more (Nat.zero_le _) (by omega)) ((hO.out.sl flat_ev).more (Nat.zero_le _) zR) (fun e he => (hEd.out e he).2.1) (by omega) (by omega));go_wp2_with fail;refine r2.out.mono ?_;rintro e w7 ⟨A3, n3, c3, B3, m3, d3, es3, rfl, hA3, hB3, hM, hb7⟩;have hF := hide ((hon2.out.trans' hon.out).belowAt hb7 (by omega));have h8 : w7.heap[w.heap.size]? = _ := (hF.out.block w.heap.size hz0 (by omega)).trans k8.out;have a0 : w7.cell? ⟨w.heap.size, 0, none⟩ = some (.int .i64 0) := cR 0 h8;have a1 : w7.cell? ⟨w.heap.size, 1, none⟩ = some (.int .i64 0) := cR 1 h8;have a2 : w7.cell? ⟨w.heap.size, 2, none⟩ = some (.slice none 0 0) := cR 2 h8;have a3 : w7.cell? ⟨w.heap.size, 3, none⟩ = some (.slice none 0 0) := cR 3 h8;have z0 : w7.frozen? ⟨w.heap.size, 0, none⟩ = false := frozen_of_row _ _ 0 _ _ h8;have z1 : w7.frozen? ⟨w.heap.size, 1, none⟩ = false := frozen_of_row _ _ 1 _ _ h8;have z2 : w7.frozen? ⟨w.heap.size, 2, none⟩ = false := frozen_of_row _ _ 2 _ _ h8;have z3 : w7.frozen? ⟨w.heap.size, 3, none⟩ = false := frozen_of_row _ _ 3 _ _ h8;have hS7 := hide (hS.out.below hb7 (by omega));have hz7 := hb7.size;have hlA3 := hA3.len;have hlj := joi_len (joiF ts);replace hA3 := hide hA3;replace hB3 := hide hB3;replace hM := hide hM;replace h8 := hide h8;clear r2 hb7 c0 c1 c2 hbox;go_wp2_with fail
     (try simp only [Exit.inBlock, Exit.then])
     refine bodyPost_ret_by (v := .agg #[.int .i64 (st : Int), .int .i64 (ini : Int), .slice A3 n3 c3, .slice B3 m3 d3]) ?_ rfl ?_
     focus
      rw [results_cell1 rfl];go_simp
     change DrawnG 7 64 2000 b N w _ (put4 w7 w.heap.size _ _ _ _)
     have hZs := put4_size w7 w.heap.size (.int .i64 (st : Int)) (.int .i64 (ini : Int)) (.slice A3 n3 c3) (.slice B3 m3 d3);have hnam : NamD (joiF ts) := fun x hx => ((joi_mem_iff ts x).1 hx).elim .inl (hD.out x)
     have hlab : ∀ x, x ∈ joiF ts → x = tauB ∨ labS x = true := fun x hx => (hnam x hx).imp id fun h => (nm5_lab x h).1
     have hmade : ltsV ((st : Int), (ini : Int), joiF (joiF ts), es3) = true := made_valid (by omega) (by omega) hlab (by omega) (by omega) (fun e he => ⟨(hEd.out e he).1, (hEd.out e he).2.2⟩) hM.out;refine ⟨st, ini, A3, n3, c3, B3, m3, d3, joiF ts, es3, rfl, ?_, ?_, hmade, by omega, by have := hM.out.2.1; omega, by omega, hnam, ?_, ?_⟩
     ·exact (Sl.keep hA3.out (by omega) fun q h1 h2 h3 => put4_other _ _ _ _ _ _ (by omega)).more (by omega) (by omega)
     ·exact (Sl.keep hB3.out (by omega) fun q h1 h2 h3 => put4_other _ _ _ _ _ _ (by omega)).more (by omega) (by omega)
     ·exact (hS7.out.keep (by omega) fun q hq => put4_other _ _ _ _ _ _ (by omega)).more (by omega)
     ·exact put4_only (hon0.out.trans' hF.out) zR _ _ _ _
end Go.Proofs.YtnhomkmfbngmgaaGreatDoor
namespace Go.Proofs.YtnhomkmfbngmgaaGreatDoor
def firsts : List Int → List Int → List Int
 | L, [] => L
 | L, x :: l => firsts (if x ∈ L then L else L ++ [x]) l
theorem firsts_app (L l : List Int) : ∃ K, firsts L l = L ++ K := by
 induction l generalizing L with
 | nil => exact ⟨[], (List.append_nil L).symm⟩
 | cons x l ih =>
  unfold firsts;obtain ⟨K, hK⟩ := ih (if x ∈ L then L else L ++ [x]);rw [hK]
  split
  ·exact ⟨K, rfl⟩
  ·exact ⟨x :: K, by rw [List.append_assoc]; rfl⟩
theorem firsts_mem {L l : List Int} {x : Int} : x ∈ firsts L l ↔ x ∈ L ∨ x ∈ l := by
 induction l generalizing L with
 | nil => simp [firsts]
 | cons t l ih =>
  unfold firsts;rw [ih]
  split
  ·rename_i h
   constructor
   ·rintro (g | g)
    ·exact .inl g
    ·exact .inr (List.mem_cons_of_mem _ g)
   ·rintro (g | g)
    ·exact .inl g
    ·rcases List.mem_cons.1 g with rfl | g
     ·exact .inl h
     ·exact .inr g
  ·simp only [List.mem_append, List.mem_singleton, List.mem_cons, or_assoc, List.not_mem_nil, false_or]
def normF (l : List Int) : List Int := l.map fun x => ((firsts [] l).idxOf x : Int)
theorem normF_len (l : List Int) : (normF l).length = l.length := by simp [normF]
theorem normF_at {l : List Int} {i : Nat} {x : Int} (h : l[i]? = some x) : (normF l)[i]? = some ((firsts [] l).idxOf x : Int) := by
 unfold normF; rw [List.getElem?_map, h]; rfl
def sameB (l : List Int) (i j : Nat) : Prop := l[i]? = l[j]?
theorem normF_same {l : List Int} {i j : Nat} (hi : i < l.length) (hj : j < l.length) : sameB (normF l) i j ↔ sameB l i j := by
 unfold sameB;have h1 : l[i]? = some l[i] := List.getElem?_eq_getElem hi;have h2 : l[j]? = some l[j] := List.getElem?_eq_getElem hj;rw [normF_at h1, normF_at h2, h1, h2]
 constructor
 ·intro h
  injection h with h;have h : (firsts [] l).idxOf l[i] = (firsts [] l).idxOf l[j] := by omega
  have g1 := List.idxOf_lt_length_of_mem (firsts_mem.2 (.inr (List.getElem_mem hi)) : l[i] ∈ firsts [] l);have g2 := List.idxOf_lt_length_of_mem (firsts_mem.2 (.inr (List.getElem_mem hj)) : l[j] ∈ firsts [] l);have e1 := List.getElem_idxOf g1;have e2 := List.getElem_idxOf g2;rw [← e1, ← e2];simp only [h]
 ·intro h
  injection h with h;rw [h]
theorem firsts_map {f : Int → Int} {L l : List Int} (hf : ∀ x y, x ∈ L ++ l → y ∈ L ++ l → f x = f y → x = y) : firsts (L.map f) (l.map f) = (firsts L l).map f := by
 induction l generalizing L with
 | nil => rfl
 | cons x l ih =>
  rw [List.map_cons];unfold firsts
  by_cases h : x ∈ L
  ·rw [if_pos h, if_pos (List.mem_map_of_mem h)]
   exact ih fun a b ha hb => hf a b (by rw [List.mem_append, List.mem_cons]; rcases List.mem_append.1 ha with g | g; exact .inl g; exact .inr (.inr g)) (by rw [List.mem_append, List.mem_cons]; rcases List.mem_append.1 hb with g | g; exact .inl g; exact .inr (.inr g))
  ·rw [if_neg h, if_neg (fun hm => by
    obtain ⟨y, hy, e⟩ := List.mem_map.1 hm;have := hf y x (List.mem_append_left _ hy) (List.mem_append_right _ (List.mem_cons_self ..)) e;exact h (this ▸ hy))]
   rw [show L.map f ++ [f x] = (L ++ [x]).map f by simp];exact ih fun a b ha hb => hf a b (by simpa using ha) (by simpa using hb)
theorem idxOf_mapI {f : Int → Int} : ∀ {L : List Int} {x : Int}, (∀ y, y ∈ L → f y = f x → y = x) → (L.map f).idxOf (f x) = L.idxOf x
 | [], x, _ => rfl
 | a :: L, x, h => by
  rw [List.map_cons, List.idxOf_cons, List.idxOf_cons]
  by_cases e : a = x
  ·subst e; simp
  ·have : f a ≠ f x := fun g => e (h a (List.mem_cons_self ..) g)
   rw [beq_eq_false_iff_ne.2 e, beq_eq_false_iff_ne.2 this];simp only [cond_false];rw [idxOf_mapI fun y hy => h y (List.mem_cons_of_mem _ hy)]
theorem normF_map {f : Int → Int} {l : List Int} (hf : ∀ x y, x ∈ l → y ∈ l → f x = f y → x = y) : normF (l.map f) = normF l := by
 unfold normF;have h := firsts_map (f := f) (L := []) (l := l) (by simpa using hf);rw [List.map_nil] at h;rw [h, List.map_map]
 apply List.map_congr_left
 intro x hx
 show (((firsts [] l).map f).idxOf (f x) : Int) = _
 rw [idxOf_mapI fun y hy e => hf y x ((firsts_mem.1 hy).resolve_left (by simp)) hx e]
theorem normF_ext {l m : List Int} (hl : l.length = m.length) (h : ∀ i j, i < l.length → j < l.length → (sameB l i j ↔ sameB m i j)) : normF l = normF m := by
 have key : ∃ f : Int → Int, m = l.map f := by
  refine ⟨fun x => (m[l.idxOf x]?).getD 0, List.ext_getElem (by simp [hl]) fun i h1 h2 => ?_⟩;rw [List.getElem_map];have hi : i < l.length := by omega
  have hx : l.idxOf l[i] < l.length := List.idxOf_lt_length_of_mem (List.getElem_mem hi);have hs : sameB l (l.idxOf l[i]) i := by
   unfold sameB;rw [List.getElem?_eq_getElem hx, List.getElem?_eq_getElem hi];exact congrArg some (List.getElem_idxOf hx)
  have := (h _ _ hx hi).1 hs;unfold sameB at this;rw [this, List.getElem?_eq_getElem h1]
  rfl
 obtain ⟨f, rfl⟩ := key;refine (normF_map fun x y hx hy e => ?_).symm;obtain ⟨i, hi, rfl⟩ := List.getElem_of_mem hx;obtain ⟨j, hj, rfl⟩ := List.getElem_of_mem hy;have := (h i j hi hj).2 (by unfold sameB; rw [List.getElem?_map, List.getElem?_map, List.getElem?_eq_getElem hi, List.getElem?_eq_getElem hj]; exact congrArg some e);unfold sameB at this;rw [List.getElem?_eq_getElem hi, List.getElem?_eq_getElem hj] at this;injection this
theorem normF_norm (l : List Int) : normF (normF l) = normF l :=
 normF_ext (normF_len l) fun i j hi hj => normF_same (by rw [normF_len] at hi; exact hi) (by rw [normF_len] at hj; exact hj)
section
variable {p q : List Int}
end
section
variable {L : List Int} {R : List (Nat × Nat)} {a b : Nat}
end
def selfL (n : Nat) : List Int := (List.range n).map Int.ofNat
section
variable {p q : List Int}
end
theorem firsts_nodup {L l : List Int} (h : L.Nodup) : (firsts L l).Nodup := by
 induction l generalizing L with
 | nil => exact h
 | cons x l ih =>
  unfold firsts;refine ih ?_
  split
  ·exact h
  ·rename_i hn
   refine List.nodup_append.2 ⟨h, by simp, ?_⟩;intro a ha b hb e;rw [List.mem_singleton] at hb;subst hb; subst e;exact hn ha
theorem idx_self {L : List Int} (h : L.Nodup) {i : Nat} (hi : i < L.length) : L.idxOf L[i] = i := by
 have h1 := List.idxOf_lt_length_of_mem (List.getElem_mem hi : L[i] ∈ L);have h2 := List.getElem_idxOf h1
 rcases Nat.lt_trichotomy (L.idxOf L[i]) i with g | g | g
 ·exact absurd h2 (List.pairwise_iff_getElem.1 h _ _ h1 hi g)
 ·exact g
 ·exact absurd h2.symm (List.pairwise_iff_getElem.1 h _ _ hi h1 g)
theorem firsts_norm (l : List Int) : firsts [] (normF l) = selfL (firsts [] l).length := by
 have hn : (firsts [] l).Nodup := firsts_nodup List.nodup_nil;have h := firsts_map (f := fun x => ((firsts [] l).idxOf x : Int)) (L := []) (l := l) (by
  intro x y hx hy e;have hx : x ∈ firsts [] l := firsts_mem.2 (.inr (by simpa using hx));have hy : y ∈ firsts [] l := firsts_mem.2 (.inr (by simpa using hy));have e : (firsts [] l).idxOf x = (firsts [] l).idxOf y := by omega
  have g1 := List.getElem_idxOf (List.idxOf_lt_length_of_mem hx);have g2 := List.getElem_idxOf (List.idxOf_lt_length_of_mem hy);rw [← g1, ← g2];simp only [e])
 rw [List.map_nil] at h
 show firsts [] (l.map _) = _
 rw [h];refine List.ext_getElem (by simp [selfL]) fun i h1 h2 => ?_
 have h3 : i < (firsts [] l).length := by simpa using h1
 rw [List.getElem_map, idx_self hn h3]
 simp [selfL]
theorem firsts_one (L : List Int) (x : Int) : firsts L [x] = if x ∈ L then L else L ++ [x] := rfl
theorem firsts_two (L l m : List Int) : firsts L (l ++ m) = firsts (firsts L l) m := by
 induction l generalizing L with
 | nil => rfl
 | cons x l ih => exact ih _
def cntB (p : List Int) (i : Nat) : Nat := (firsts [] (p.take i)).length
section
variable {p : List Int} {i : Nat} {x : Int}
theorem firsts_take (hp : normF p = p) (i : Nat) : firsts [] (p.take i) = selfL (cntB p i) := by
 have h1 : firsts [] p = selfL (firsts [] p).length := by
  conv => lhs; rw [← hp]
  rw [firsts_norm]
 obtain ⟨K, hK⟩ := firsts_app (firsts [] (p.take i)) (p.drop i);rw [← firsts_two, List.take_append_drop] at hK;have h2 : firsts [] (p.take i) = (firsts [] p).take (cntB p i) := by
  rw [hK];unfold cntB;rw [List.take_left]
 have h3 : cntB p i ≤ (firsts [] p).length := by
  rw [hK, List.length_append]; unfold cntB; omega
 rw [h2, h1];unfold selfL;rw [← List.map_take, List.take_range, Nat.min_eq_left (by simpa [selfL] using h3)]
theorem cntB_step (hp : normF p = p) (hx : p[i]? = some x) : (0 ≤ x ∧ x < cntB p i ∧ cntB p (i + 1) = cntB p i) ∨ (x = cntB p i ∧ cntB p (i + 1) = cntB p i + 1) := by
 have h1 : firsts [] (p.take (i + 1)) = firsts (firsts [] (p.take i)) [x] := by
  rw [← firsts_two, List.take_add_one, hx]; rfl
 have h2 := firsts_take hp i;have h3 := firsts_take hp (i + 1)
 by_cases hm : x ∈ firsts [] (p.take i)
 ·left
  have h4 : firsts [] (p.take (i + 1)) = firsts [] (p.take i) := by rw [h1, firsts_one, if_pos hm]
  rw [h2] at hm;unfold selfL at hm;obtain ⟨v, hv, rfl⟩ := List.mem_map.1 hm;have hv := List.mem_range.1 hv;exact ⟨Int.natCast_nonneg v, Int.ofNat_lt.2 hv, by unfold cntB; rw [h4]⟩
 ·right
  have h4 : firsts [] (p.take (i + 1)) = firsts [] (p.take i) ++ [x] := by
   rw [h1, firsts_one, if_neg hm]
  have h5 : cntB p (i + 1) = cntB p i + 1 := by unfold cntB; rw [h4, List.length_append]; rfl
  refine ⟨?_, h5⟩;rw [h3, h2, h5] at h4;unfold selfL at h4;rw [List.range_succ, List.map_append] at h4;have := List.append_cancel_left h4;injection this with this;exact this.symm
end
open Go.Sort
theorem sortI_asc (l : List Int) : (sortI l).Pairwise (· ≤ ·) := by
 have := List.pairwise_mergeSort (le := fun x y : Int => decide (x ≤ y)) (fun a b c h1 h2 => by simp only [decide_eq_true_eq] at *; omega) (fun a b => by simp only [Bool.or_eq_true, decide_eq_true_eq]; omega) l;exact this.imp fun h => by simpa using h
theorem compact_asc {l : List Int} (h : l.Pairwise (· ≤ ·)) : (Lib.compact l).Pairwise (· < ·) := by
 unfold Lib.compact Lib.compactUpTo;rw [List.pairwise_map];refine List.Pairwise.imp_of_mem (fun {p q} hp hq hpq => ?_) (List.Pairwise.filter _ (List.pairwise_lt_range (n := l.length)));obtain ⟨hp1, -⟩ := List.mem_filter.1 hp;obtain ⟨hq1, hq2⟩ := List.mem_filter.1 hq;have hp1 := List.mem_range.1 hp1;have hq1 := List.mem_range.1 hq1;unfold Lib.keeps at hq2;rw [decide_eq_true_eq] at hq2;have hne : l.toArray[q]! ≠ l.toArray[q - 1]! := hq2.resolve_left (by omega);rw [getElem!_pos _ q (by simpa using hq1), getElem!_pos _ (q - 1) (by simp; omega)] at hne;rw [getElem!_pos _ p (by simpa using hp1), getElem!_pos _ q (by simpa using hq1)];simp only [List.getElem_toArray] at hne ⊢;have h1 := List.pairwise_iff_getElem.1 h (q - 1) q (by omega) hq1 (by omega)
 by_cases e : p = q - 1
 ·subst e; omega
 ·have h3 := List.pairwise_iff_getElem.1 h p (q - 1) hp1 (by omega) (by omega)
  omega
theorem set_asc (l : List Int) : (Lib.compact (sortI l)).Pairwise (· < ·) := compact_asc (sortI_asc l)
theorem set_mem {l : List Int} {x : Int} : x ∈ Lib.compact (sortI l) ↔ x ∈ l := by rw [compact_mem, sortI_mem]
section
variable {α : Type} [BEq α]
def nkL (keys : List α) : List Int := keys.map fun k => (keys.idxOf k : Int)
def nkF (keys : List α) : List Int := normF (nkL keys)
theorem nkF_len (keys : List α) : (nkF keys).length = keys.length := by unfold nkF nkL; rw [normF_len, List.length_map]
theorem nkF_norm (keys : List α) : normF (nkF keys) = nkF keys := normF_norm _
theorem nk_same [LawfulBEq α] {keys : List α} {i j : Nat} (hi : i < keys.length) (hj : j < keys.length) : sameB (nkF keys) i j ↔ keys[i]? = keys[j]? := by
 have hl : (nkL keys).length = keys.length := by simp [nkL]
 rw [nkF, normF_same (by omega) (by omega)];unfold sameB nkL;rw [List.getElem?_map, List.getElem?_map, List.getElem?_eq_getElem hi, List.getElem?_eq_getElem hj];simp only [Option.map_some, Option.some.injEq]
 constructor
 ·intro h
  have h : keys.idxOf keys[i] = keys.idxOf keys[j] := by omega
  have g1 := List.idxOf_lt_length_of_mem (List.getElem_mem hi);have g2 := List.idxOf_lt_length_of_mem (List.getElem_mem hj);have e1 := List.getElem_idxOf g1;have e2 := List.getElem_idxOf g2;rw [← e1, ← e2];simp only [h]
 ·intro h; rw [h]
end
theorem asc_ext : ∀ {l m : List Int}, l.Pairwise (· < ·) → m.Pairwise (· < ·) → (∀ x, x ∈ l ↔ x ∈ m) → l = m
 | [], [], _, _, _ => rfl
 | [], y :: m, _, _, h => absurd ((h y).2 (List.mem_cons_self ..)) List.not_mem_nil
 | x :: l, [], _, _, h => absurd ((h x).1 (List.mem_cons_self ..)) List.not_mem_nil
 | x :: l, y :: m, hl, hm, h => by
  have h1 := List.pairwise_cons.1 hl;have h2 := List.pairwise_cons.1 hm;have e : x = y := by
   rcases List.mem_cons.1 ((h x).1 (List.mem_cons_self ..)) with e | e
   ·exact e
   ·rcases List.mem_cons.1 ((h y).2 (List.mem_cons_self ..)) with g | g
    ·exact g.symm
    ·have := h1.1 y g; have := h2.1 x e; omega
  subst e;rw [asc_ext h1.2 h2.2 fun z => ?_]
  constructor
  ·intro hz
   rcases List.mem_cons.1 ((h z).1 (List.mem_cons_of_mem _ hz)) with e | e
   ·subst e; exact absurd (h1.1 z hz) (by omega)
   ·exact e
  ·intro hz
   rcases List.mem_cons.1 ((h z).2 (List.mem_cons_of_mem _ hz)) with e | e
   ·subst e; exact absurd (h2.1 z hz) (by omega)
   ·exact e
theorem set_ext {l m : List Int} : Lib.compact (sortI l) = Lib.compact (sortI m) ↔ ∀ x, x ∈ l ↔ x ∈ m := by
 constructor
 ·intro h x; rw [← set_mem (l := l), h, set_mem]
 ·intro h; exact asc_ext (set_asc l) (set_asc m) fun x => by rw [set_mem, set_mem]; exact h x
def cdE (N : Nat) (p : List Int) (e : Ed) : Int := e.2.1 * (N : Int) + (p[e.2.2.toNat]?).getD 0
def cdL (es : List Ed) (N : Nat) (p : List Int) (k : Nat) : List Int := (es.filter fun e => decide (e.1 = (k : Int))).map (cdE N p)
def keyR (es : List Ed) (N : Nat) (p : List Int) (k : Nat) : List Int := (p[k]?).getD 0 :: Lib.compact (sortI (cdL es N p k))
def keysR (es : List Ed) (N : Nat) (p : List Int) : List (List Int) := (List.range N).map (keyR es N p)
def refF (es : List Ed) (N : Nat) (p : List Int) : List Int := nkF (keysR es N p)
def canS (es : List Ed) (p : List Int) (k : Nat) (l b : Int) : Prop := ∃ e, e ∈ es ∧ e.1 = (k : Int) ∧ e.2.1 = l ∧ p[e.2.2.toNat]? = some b
def EdIn (N : Nat) (es : List Ed) : Prop := ∀ e, e ∈ es → (0 ≤ e.1 ∧ e.1 < (N : Int)) ∧ 0 ≤ e.2.1 ∧ 0 ≤ e.2.2 ∧ e.2.2 < (N : Int)
structure PartN (N : Nat) (p : List Int) : Prop where
 len : p.length = N
 norm : normF p = p
section
variable {es : List Ed} {N : Nat} {p q : List Int}
theorem firsts_len_le (L l : List Int) : (firsts L l).length ≤ L.length + l.length := by
 induction l generalizing L with
 | nil => exact zR
 | cons x l ih =>
  unfold firsts;refine Nat.le_trans (ih _) ?_;rw [List.length_cons]
  split
  ·omega
  ·rw [List.length_append, List.length_singleton]; omega
theorem PartN.range (h : PartN N p) : ∀ x, x ∈ p → 0 ≤ x ∧ x < (N : Int) := fun x hx => by
 rw [← h.norm] at hx;unfold normF at hx;obtain ⟨y, hy, rfl⟩ := List.mem_map.1 hx;have h1 := List.idxOf_lt_length_of_mem (firsts_mem.2 (.inr hy) : y ∈ firsts [] p);have h2 := firsts_len_le [] p;rw [h.len] at h2;simp only [List.length_nil] at h2;omega
theorem refF_part (es : List Ed) (N : Nat) (p : List Int) : PartN N (refF es N p) := ⟨by unfold refF; rw [nkF_len]; simp [keysR], nkF_norm _⟩
theorem cd_inj {a b c d : Int} (hN : 0 ≤ b ∧ b < (N : Int)) (hM : 0 ≤ d ∧ d < (N : Int)) (h : a * (N : Int) + b = c * (N : Int) + d) : a = c ∧ b = d := by
 have h1 : (a * (N : Int) + b) / (N : Int) = a := by rw [Int.add_comm, Int.add_mul_ediv_right _ _ (by omega), Int.ediv_eq_zero_of_lt hN.1 hN.2]; omega
 have h2 : (c * (N : Int) + d) / (N : Int) = c := by rw [Int.add_comm, Int.add_mul_ediv_right _ _ (by omega), Int.ediv_eq_zero_of_lt hM.1 hM.2]; omega
 have e : a = c := by rw [← h1, ← h2, h]
 subst e;exact ⟨rfl, by omega⟩
theorem to_get (he : EdIn N es) (hp : p.length = N) {e : Ed} (h : e ∈ es) : ∃ b, p[e.2.2.toNat]? = some b := by
 have := he e h;exact ⟨_, List.getElem?_eq_getElem (by omega)⟩
theorem cdL_mem (he : EdIn N es) (hp : p.length = N) {k : Nat} {c : Int} : c ∈ cdL es N p k ↔ ∃ l b, canS es p k l b ∧ c = l * (N : Int) + b := by
 unfold cdL;rw [List.mem_map]
 constructor
 ·rintro ⟨e, h1, rfl⟩
  obtain ⟨h1, h2⟩ := List.mem_filter.1 h1;obtain ⟨b, hb⟩ := to_get he hp h1;exact ⟨e.2.1, b, ⟨e, h1, of_decide_eq_true h2, rfl, hb⟩, by unfold cdE; rw [hb]; rfl⟩
 ·rintro ⟨l, b, ⟨e, h1, h2, rfl, hb⟩, rfl⟩
  exact ⟨e, List.mem_filter.2 ⟨h1, decide_eq_true h2⟩, by unfold cdE; rw [hb]; rfl⟩
theorem ref_same (he : EdIn N es) (hp : p.length = N) (hr : ∀ x, x ∈ p → 0 ≤ x ∧ x < (N : Int)) {i j : Nat} (hi : i < N) (hj : j < N) : sameB (refF es N p) i j ↔ sameB p i j ∧ ∀ l b, canS es p i l b ↔ canS es p j l b := by
 have hk : (keysR es N p).length = N := by simp [keysR]
 unfold refF;rw [nk_same (by omega) (by omega)];unfold keysR;rw [List.getElem?_map, List.getElem?_map, List.getElem?_range hi, List.getElem?_range hj];simp only [Option.map_some, Option.some.injEq];unfold keyR;rw [List.cons.injEq, set_ext];have e1 : (p[i]?).getD 0 = (p[j]?).getD 0 ↔ sameB p i j := by
  unfold sameB;rw [List.getElem?_eq_getElem (by omega), List.getElem?_eq_getElem (by omega)]
  simp
 have hin : ∀ {k : Nat} {l b : Int}, canS es p k l b → 0 ≤ b ∧ b < (N : Int) := fun ⟨e, _, _, _, hb⟩ => hr _ (List.mem_of_getElem? hb)
 rw [e1];refine and_congr_right fun _ => ?_
 constructor
 ·intro h l b
  have := h (l * (N : Int) + b);rw [cdL_mem he hp, cdL_mem he hp] at this
  constructor
  ·intro g
   obtain ⟨l2, b2, g2, e⟩ := this.1 ⟨l, b, g, rfl⟩;obtain ⟨rfl, rfl⟩ := cd_inj (hin g) (hin g2) e;exact g2
  ·intro g
   obtain ⟨l2, b2, g2, e⟩ := this.2 ⟨l, b, g, rfl⟩;obtain ⟨rfl, rfl⟩ := cd_inj (hin g) (hin g2) e;exact g2
 ·intro h c
  rw [cdL_mem he hp, cdL_mem he hp]
  constructor
  ·rintro ⟨l, b, g, e⟩; exact ⟨l, b, (h l b).1 g, e⟩
  ·rintro ⟨l, b, g, e⟩; exact ⟨l, b, (h l b).2 g, e⟩
theorem part_ext (h : PartN N p) (g : PartN N q) (hs : ∀ i j, i < N → j < N → (sameB p i j ↔ sameB q i j)) : p = q := by
 rw [← h.norm, ← g.norm];exact normF_ext (by rw [h.len, g.len]) fun i j hi hj => hs i j (by rw [h.len] at hi; exact hi) (by rw [h.len] at hj; exact hj)
end
def zeroP (N : Nat) : List Int := List.replicate N 0
def rndP (es : List Ed) (N : Nat) : Nat → List Int
 | 0 => zeroP N
 | n + 1 => refF es N (rndP es N n)
theorem zeroP_part (N : Nat) : PartN N (zeroP N) := by
 refine ⟨by simp [zeroP], ?_⟩;unfold normF zeroP;rw [List.map_replicate]
 congr 1
 cases N with
 | zero => rfl
 | succ n =>
  have : (0 : Int) ∈ firsts [] (List.replicate (n + 1) (0 : Int)) := firsts_mem.2 (.inr (by simp));have h0 : firsts [] (List.replicate (n + 1) (0 : Int)) = [0] := by
   show firsts (if (0 : Int) ∈ ([] : List Int) then [] else [] ++ [0]) (List.replicate n 0) = [0]
   rw [if_neg (by simp)]
   show firsts [0] (List.replicate n 0) = [0]
   induction n with
   | zero => rfl
   | succ n ih =>
    show firsts (if (0 : Int) ∈ ([0] : List Int) then [0] else [0] ++ [0]) (List.replicate n 0) = [0]
    rw [if_pos (by simp)];exact ih (firsts_mem.2 (.inr (by simp)))
  rw [h0]; rfl
section
variable {es : List Ed} {N : Nat}
theorem rnd_part (n : Nat) : PartN N (rndP es N n) := by
 cases n with
 | zero => exact zeroP_part N
 | succ n => exact refF_part _ _ _
theorem rnd_same (he : EdIn N es) {n i j : Nat} (hi : i < N) (hj : j < N) : sameB (rndP es N (n + 1)) i j ↔ sameB (rndP es N n) i j ∧ ∀ l b, canS es (rndP es N n) i l b ↔ canS es (rndP es N n) j l b :=
 ref_same he (rnd_part n).len (rnd_part n).range hi hj
theorem rnd_zero {i j : Nat} (hi : i < N) (hj : j < N) : sameB (rndP es N 0) i j := by
 unfold sameB rndP zeroP;rw [List.getElem?_replicate, List.getElem?_replicate, if_pos hi, if_pos hj]
def numB (p : List Int) : Nat := (firsts [] p).length
theorem firsts_of_norm {p : List Int} (h : normF p = p) : firsts [] p = selfL (numB p) := by
 have := firsts_norm p;rw [h] at this;exact this
theorem numB_le (p : List Int) : numB p ≤ p.length := by have := firsts_len_le [] p; simp only [List.length_nil] at this; unfold numB; omega
theorem firsts_nd (p : List Int) : (firsts [] p).Nodup := firsts_nodup List.nodup_nil
theorem sub_erase {L M : List Int} {x : Int} (hn : (x :: L).Nodup) (h : ∀ y, y ∈ x :: L → y ∈ M) : ∀ y, y ∈ L → y ∈ M.erase x := fun y hy => by
 have hne : y ≠ x := fun e => (List.nodup_cons.1 hn).1 (e ▸ hy)
 exact (List.mem_erase_of_ne hne).2 (h y (List.mem_cons_of_mem _ hy))
theorem sub_len : ∀ {L M : List Int}, L.Nodup → (∀ y, y ∈ L → y ∈ M) → L.length ≤ M.length
 | [], M, _, _ => Nat.zero_le _
 | x :: L, M, hn, h => by
  have h1 := sub_len (List.nodup_cons.1 hn).2 (sub_erase hn h);have hx := h x (List.mem_cons_self ..);rw [List.length_erase_of_mem hx] at h1;have := List.length_pos_of_mem hx;rw [List.length_cons]; omega
theorem sub_perm : ∀ {L M : List Int}, L.Nodup → (∀ y, y ∈ L → y ∈ M) → M.length ≤ L.length → L.Perm M
 | [], M, _, _, hl => by rw [List.length_eq_zero_iff.1 (Nat.le_zero.1 hl)]
 | x :: L, M, hn, h, hl => by
  have hx := h x (List.mem_cons_self ..);have := sub_perm (List.nodup_cons.1 hn).2 (sub_erase hn h) (by rw [List.length_erase_of_mem hx]; rw [List.length_cons] at hl; omega);exact (this.cons x).trans (List.perm_cons_erase hx).symm
theorem numB_fine {p q : List Int} (hl : p.length = q.length) (hf : ∀ i j, i < p.length → j < p.length → sameB q i j → sameB p i j) : numB p ≤ numB q ∧ (numB p = numB q → ∀ i j, i < p.length → j < p.length → sameB p i j → sameB q i j) := by
 -- each block of q lies in one of p: the map from q's numbers to p's is onto
 let f : Int → Int := fun x => (p[q.idxOf x]?).getD 0
 have hfx : ∀ i, i < p.length → ∀ x, q[i]? = some x → p[i]? = some (f x) := by
  intro i hi x hx;have hxi := List.getElem?_eq_some_iff.1 hx;have hm : x ∈ q := List.mem_of_getElem? hx;have hlt := List.idxOf_lt_length_of_mem hm;have hs : sameB q (q.idxOf x) i := by
   unfold sameB;rw [hx, List.getElem?_eq_getElem hlt];exact congrArg some (List.getElem_idxOf hlt)
  have := hf _ _ (by omega) hi hs;unfold sameB at this
  show p[i]? = some ((p[q.idxOf x]?).getD 0)
  rw [← this, List.getElem?_eq_getElem (show q.idxOf x < p.length by omega)]
  rfl
 have hsub : ∀ y, y ∈ firsts [] p → y ∈ (firsts [] q).map f := by
  intro y hy;have hy := (firsts_mem.1 hy).resolve_left List.not_mem_nil;obtain ⟨i, hi, rfl⟩ := List.getElem_of_mem hy;have hq : q[i]? = some (q[i]'(by omega)) := List.getElem?_eq_getElem (by omega);have := hfx i hi _ hq;rw [List.getElem?_eq_getElem hi] at this;injection this with this;rw [this];exact List.mem_map_of_mem (firsts_mem.2 (.inr (List.mem_of_getElem? hq)))
 have hle : (firsts [] p).length ≤ ((firsts [] q).map f).length := sub_len (firsts_nd p) hsub;rw [List.length_map] at hle;refine ⟨hle, fun he i j hi hj hs => ?_⟩;have hperm : (firsts [] p).Perm ((firsts [] q).map f) := sub_perm (firsts_nd p) hsub (by rw [List.length_map]; exact Nat.le_of_eq he.symm);have hnd : ((firsts [] q).map f).Nodup := hperm.nodup_iff.1 (firsts_nd p);have h1 : q[i]? = some (q[i]'(by omega)) := List.getElem?_eq_getElem (by omega);have h2 : q[j]? = some (q[j]'(by omega)) := List.getElem?_eq_getElem (by omega);have e1 := hfx i hi _ h1;have e2 := hfx j hj _ h2;unfold sameB at hs;rw [e1, e2] at hs;injection hs with hs;have m1 : (q[i]'(by omega)) ∈ firsts [] q := firsts_mem.2 (.inr (List.mem_of_getElem? h1));have m2 : (q[j]'(by omega)) ∈ firsts [] q := firsts_mem.2 (.inr (List.mem_of_getElem? h2));unfold sameB;rw [h1, h2]
 congr 1
 obtain ⟨a, ha, ea⟩ := List.getElem_of_mem m1;obtain ⟨b, hb, eb⟩ := List.getElem_of_mem m2;have hab := (List.getElem_inj (h₀ := show a < ((firsts [] q).map f).length by rw [List.length_map]; exact ha) (h₁ := show b < ((firsts [] q).map f).length by rw [List.length_map]; exact hb) hnd).1 (by rw [List.getElem_map, List.getElem_map, ea, eb]; exact hs);subst hab;rw [← ea, ← eb]
theorem numB_ref (he : EdIn N es) {n : Nat} (hne : rndP es N (n + 1) ≠ rndP es N n) : numB (rndP es N n) < numB (rndP es N (n + 1)) := by
 have hl : (rndP es N n).length = (rndP es N (n + 1)).length := by rw [(rnd_part n).len, (rnd_part (n + 1)).len]
 obtain ⟨h1, h2⟩ := numB_fine hl fun i j hi hj h => ((rnd_same he (by rw [(rnd_part n).len] at hi; exact hi) (by rw [(rnd_part n).len] at hj; exact hj)).1 h).1
 by_cases e : numB (rndP es N n) = numB (rndP es N (n + 1))
 ·refine absurd (part_ext (rnd_part (n + 1)) (rnd_part n) fun i j hi hj => ⟨fun h => ((rnd_same he hi hj).1 h).1, fun h => h2 e i j (by rw [(rnd_part n).len]; exact hi) (by rw [(rnd_part n).len]; exact hj) h⟩) hne
 ·omega
theorem rnd_many (he : EdIn N es) (hN : 1 ≤ N) {n : Nat} (h : ∀ m, m < n → rndP es N (m + 1) ≠ rndP es N m) : n + 1 ≤ numB (rndP es N n) := by
 induction n with
 | zero =>
  have hm : (0 : Int) ∈ firsts [] (rndP es N 0) := firsts_mem.2 (.inr (by unfold rndP zeroP; exact List.mem_replicate.2 ⟨by omega, rfl⟩));have := List.length_pos_of_mem hm;unfold numB; omega
 | succ n ih =>
  have h1 := ih fun m hm => h m (by omega)
  have h2 := numB_ref he (h n (by omega));omega
theorem rnd_bound (he : EdIn N es) (hN : 1 ≤ N) {n : Nat} (h : ∀ m, m < n → rndP es N (m + 1) ≠ rndP es N m) : n + 1 ≤ N := by
 have h1 := rnd_many he hN h;have h2 := numB_le (rndP es N n);rw [(rnd_part n).len] at h2;omega
def LastR (es : List Ed) (N r : Nat) : Prop := rndP es N (r + 1) = rndP es N r ∧ ∀ m, m < r → rndP es N (m + 1) ≠ rndP es N m
end
end Go.Proofs.YtnhomkmfbngmgaaGreatDoor
namespace Go.Proofs.YtnhomkmfbngmgaaGreatDoor
open Go.ChangeShapes Go.WideShapes Go.ChangeAt Go.RowKit
theorem mem_sum : ∀ {l : List Nat} {x : Nat}, x ∈ l → x ≤ l.sum
 | a :: l, x, h => by
  rw [List.sum_cons]
  rcases List.mem_cons.1 h with e | e
  ·omega
  ·have := mem_sum e; omega
structure SysA (w : World) (N ini : Nat) (A : Option Addr) (n : Nat) (B : Option Addr) (m : Nat) (ls : List ByteArray) (es : List Ed) : Prop where
 ss : SlS w 0 w.heap.size A n ls
 se : SlE w 0 w.heap.size B m es
 ok : ltsV ((N : Int), (ini : Int), ls, es) = true
 sz : totS ls ≤ 100000
theorem Sl.here' {α : Type} {size : Nat} {f : α → List Value} {w : World} {lo hi n : Nat} {A : Option Addr} {l : List α} (h : Sl size f w lo hi A n l) : Sl size f w 0 w.heap.size A n l :=
 ⟨h.1, fun hn => by
  obtain ⟨b, off, e, g1, g2, g3, hc⟩ := h.2 hn;exact ⟨b, off, e, Nat.zero_le _, g3, g3, hc⟩⟩
section
variable {w w' : World} {N ini : Nat} {A : Option Addr} {n c : Nat} {B : Option Addr} {m d : Nat} {ls : List ByteArray} {es : List Ed}
theorem SysA.below {K : Nat} (h : SysA w N ini A n B m ls es) (hb : Below K w w') (hK : w.heap.size ≤ K) : SysA w' N ini A n B m ls es :=
 ⟨(h.ss.below hb (.inr hK)).here', (h.se.below hb (.inr hK)).here', h.ok, h.sz⟩
theorem SysA.edges (h : SysA w N ini A n B m ls es) : EdIn N es := fun e he => by
 have := (ltsV_edge h.ok).1 e he;exact ⟨this.1, this.2.1.1, this.2.2⟩
theorem SysA.labs (h : SysA w N ini A n B m ls es) : ∀ e, e ∈ es → 0 ≤ e.2.1 ∧ e.2.1 < (ls.length : Int) := fun e he => ((ltsV_edge h.ok).1 e he).2.1
theorem SysA.ends (h : SysA w N ini A n B m ls es) : ∀ e ∈ es, (0 ≤ e.1 ∧ e.1 < (N : Int)) ∧ (0 ≤ e.2.2 ∧ e.2.2 < (N : Int)) := fun e he => by
 have := (ltsV_edge h.ok).1 e he;exact ⟨this.1, this.2.2⟩
theorem SysA.bounds (h : SysA w N ini A n B m ls es) : (1 ≤ N ∧ N ≤ 40) ∧ ini < N := by
 have := (ltsV_edge h.ok).2;omega
theorem SysA.many (h : SysA w N ini A n B m ls es) : m ≤ 300 ∧ n ≤ 12 ∧ 1 ≤ n ∧ es.length = m ∧ ls.length = n := by
 have h1 := h.ok;rw [ltsV_eq] at h1;simp only [Bool.and_eq_true, decide_eq_true_eq] at h1;obtain ⟨⟨-, -, h3, h4⟩, -⟩ := h1;unfold namesB at h3;rw [Bool.and_eq_true] at h3;have h5 := inB_true.1 h3.1;have := h.ss.len;have := h.se.len;omega
theorem SysA.read (h : SysA w N ini A n B m ls es) (c d : Nat) : ReadL w 0 w.heap.size ((N : Int), (ini : Int), .slice A n c, .slice B m d) ((N : Int), (ini : Int), ls, es) ∧ totL ((N : Int), (ini : Int), ls, es) ≤ 1048576 := by
 have hm := h.many;have hz := h.sz;have hml : 100000 ≤ maxLen := by unfold maxLen; omega
 refine ⟨⟨rfl, rfl, ⟨A, n, c, rfl, by omega, ?_, h.ss⟩, ⟨B, m, d, rfl, by omega, h.se⟩⟩, ?_⟩
 ·intro s hs
  have hs : s ∈ ls := hs;have h1 : s.size ≤ (ls.map (·.size)).sum := mem_sum (List.mem_map_of_mem hs);unfold totS at hz;omega
 ·unfold totL
  show totS ls + es.length ≤ 1048576
  omega
theorem SysA.valid (h : SysA w N ini A n B m ls es) (c d : Nat) (he : Env w) :
  Calls Tryz.prog 54 #[.agg #[.int .i64 (N : Int), .int .i64 (ini : Int), .slice A n c, .slice B m d]] w fun e w' => e = .returned (.bool true) ∧ Below w.heap.size w w' := by
 have q := validLts_calls ((N : Int), (ini : Int), .slice A n c, .slice B m d) ((N : Int), (ini : Int), ls, es) w 0 w.heap.size (h.read c d).1 (h.read c d).2 he;rw [h.ok] at q;exact q
end
theorem DrawnG.sys {K M Q b N : Nat} {w w' : World} {e : Ending} (h : DrawnG K M Q b N w e w') (hK : K ≤ 12) : ∃ (st ini : Nat) (A : Option Addr) (n c : Nat) (B : Option Addr) (m d : Nat) (ls : List ByteArray) (es : List Ed),
  e = .returned (.agg #[.int .i64 (st : Int), .int .i64 (ini : Int), .slice A n c, .slice B m d]) ∧ SysA w' st ini A n B m ls es ∧ st ≤ 7 ∧ es.length ≤ M ∧ n ≤ K ∧ NamD ls ∧ SrcW w' b (N + Q) ∧ Only b (b + 1) w w' ∧ SlS w' w.heap.size w'.heap.size A n ls ∧ SlE w' w.heap.size w'.heap.size B m es := by
 obtain ⟨st, ini, A, n, c, B, m, d, ts, es, rfl, hA, hB, hv, h7, hM, hn, hD, hS, hO⟩ := h;have hnam : NamD (joiF ts) := fun x hx => ((joi_mem_iff ts x).1 hx).elim .inl (hD x)
 refine ⟨st, ini, A, n, c, B, m, d, joiF ts, es, rfl, ⟨hA.here', hB.here', hv, ?_⟩, h7, hM, hn, hnam, hS, hO, hA, hB⟩;have hl := hA.len;have key : ∀ l : List ByteArray, NamD l → (l.map (·.size)).sum ≤ 6 * l.length := by
  intro l
  induction l with
  | nil => intro _; simp
  | cons x l ih =>
   intro hx;have h1 := ih fun y hy => hx y (List.mem_cons_of_mem _ hy)
   have h2 : x.size ≤ 6 := by
    rcases hx x (List.mem_cons_self ..) with e | e
    ·rw [e]; decide
    ·unfold nm5 at e
     simp only [List.mem_cons, List.mem_nil_iff, or_false] at e
     rcases e with rfl | rfl | rfl | rfl | rfl <;> decide
   simp only [List.map_cons, List.sum_cons, List.length_cons];omega
 have := key _ hnam;unfold totS;omega
abbrev ltsC (N ini : Nat) (A : Option Addr) (n c : Nat) (B : Option Addr) (m d : Nat) : Obj := .cells #[.int .i64 (N : Int), .int .i64 (ini : Int), .slice A n c, .slice B m d] 27
structure BoxA (w w1 : World) (N ini : Nat) (A : Option Addr) (n c : Nat) (B : Option Addr) (m d : Nat) (ls : List ByteArray) (es : List Ed) : Prop where
 box : LtsBox w1 w.heap.size (N : Int) (ini : Int) A n c B m d
 sys : SysA w1 N ini A n B m ls es
 bel : Below w.heap.size w w1
theorem SysA.box {w : World} {N ini : Nat} {A : Option Addr} {n c : Nat} {B : Option Addr} {m d : Nat} {ls : List ByteArray} {es : List Ed} (h : SysA w N ini A n B m ls es) : BoxA w (w.alloc (ltsC N ini A n c B m d)) N ini A n c B m d ls es := by
 have hb := (Below.refl w.heap.size w).alloc zR (ltsC N ini A n c B m d);exact ⟨heap_alloc_new w _, h.below hb zR, hb⟩
section
variable {w w1 w2 : World} {N ini : Nat} {A : Option Addr} {n c : Nat} {B : Option Addr} {m d : Nat} {ls : List ByteArray} {es : List Ed}
theorem BoxA.below (h : BoxA w w1 N ini A n c B m d ls es) (hb : Below w1.heap.size w1 w2) : BoxA w w2 N ini A n c B m d ls es :=
 ⟨h.box.below hb h.box.lt, h.sys.below hb zR, h.bel.trans (hb.mono h.bel.size)⟩
theorem BoxA.lt (h : BoxA w w1 N ini A n c B m d ls es) : w.heap.size < w1.heap.size := h.box.lt
end
section
variable {w : World} {N ini : Nat} {A : Option Addr} {n : Nat} {B : Option Addr} {m : Nat} {ls : List ByteArray} {es : List Ed}
end
theorem grown_cell8 {w w' : World} {row : Option Nat} {q i : Nat} {v : Value} (h : w.grownBy w' row) (hq : q < w.heap.size) (hne : some q ≠ row) (hc : w.cell? ⟨q, i, none⟩ = some v) : w'.cell? ⟨q, i, none⟩ = some v :=
 (World.cell?_of_block (w := w) (by simpa using h.block q hq hne)).trans hc
section
variable {w : World} {N ini : Nat} {A : Option Addr} {n : Nat} {B : Option Addr} {m : Nat} {ls : List ByteArray} {es : List Ed}
end
open Go.Lib Go.Sort
def idxZ (l : List ByteArray) (v : ByteArray) : Int := if l.any (fun x => decide (x = v)) then ((l.findIdx fun x => decide (x = v) : Nat) : Int) else -1
theorem idxZ_hit {l : List ByteArray} {v : ByteArray} {k : Nat} (hx : l[k]? = some v) (ha : (l.take k).any (fun x => decide (x = v)) = false) : idxZ l v = (k : Int) := by
 obtain ⟨hk, e⟩ := List.getElem?_eq_some_iff.1 hx;have h1 : l.any (fun x => decide (x = v)) = true := any_hit (G := fun x => decide (x = v)) hx (decide_eq_true rfl);unfold idxZ;rw [if_pos h1]
 congr 1
 rw [List.findIdx_eq hk];refine ⟨by rw [e]; exact decide_eq_true rfl, fun j hj => ?_⟩;rw [List.any_eq_false] at ha;have := ha (l[j]'(by omega)) (List.mem_of_getElem? (show (l.take k)[j]? = some l[j] by rw [List.getElem?_take, if_pos hj, List.getElem?_eq_getElem (by omega)]))
 simpa using this
theorem idxZ_none {l : List ByteArray} {v : ByteArray} (ha : l.any (fun x => decide (x = v)) = false) : idxZ l v = -1 := by
 unfold idxZ;rw [ha]
 rfl
theorem idxZ_get {l : List ByteArray} {v : ByteArray} (h : v ∈ l) : ∃ k : Nat, idxZ l v = (k : Int) ∧ l[k]? = some v := by
 have h1 : l.any (fun x => decide (x = v)) = true := List.any_eq_true.2 ⟨v, h, decide_eq_true rfl⟩;unfold idxZ;rw [if_pos h1];have h2 : l.findIdx (fun x => decide (x = v)) < l.length := List.findIdx_lt_length.2 ⟨v, h, decide_eq_true rfl⟩;refine ⟨_, rfl, ?_⟩;rw [List.getElem?_eq_getElem h2];have h3 := List.findIdx_getElem (p := fun x => decide (x = v)) (xs := l) (w := h2);exact congrArg some (of_decide_eq_true h3)
theorem indexZ_calls (v : ByteArray) (A : Option Addr) (n c : Nat) (l : List ByteArray) (w : World) (lo hi : Nat) (h : SlS w lo hi A n l) (hn : n ≤ 1048576) :
  Calls Tryz.prog 185 #[.slice A n c, .string v] w fun e w' => e = .returned (.int .i64 (idxZ l v)) ∧ w' = w := by
 have hlen := hide h.len;go_enter Tryz.func185, Tryz.ntmps185
 go_wp2
 go_loop [8] (fun i => ∃ k : Nat, k ≤ n ∧ i = .int .i64 k ∧ Hid ((l.take k).any (fun x => decide (x = v)) = false)) (fun i => n - (intOf i).toNat)
 case atStart => exact ⟨0, Nat.zero_le _, rfl, rfl⟩
 case round =>
  obtain ⟨k, hk, rfl, ha⟩ := hrel
  by_cases hlt : k < n
  ·obtain ⟨b, off, x, rfl, g1, g2, g3, hx, c0, -⟩ := SlS.get h hlt
   clear h
   by_cases hq : x = v
   ·subst hq
    have hy := hide (idxZ_hit hx ha.out);have hself : (x.toList == x.toList) = true := beq_self_eq_true _;clear hx
    go_wp2
    go_ret;exact ⟨ret_i (by rw [hy.out]), rfl⟩
   ·have hy := hide (any_take_succ ha.out hx (decide_eq_false hq))
    have hne := str_neq hq;have hne2 : ¬ x.toList = v.toList := fun e => by rw [e, beq_self_eq_true] at hne; cases hne
    obtain ⟨hne3, hne4⟩ := str_list_ne3 hq;clear hx hq
    go_wp2
    go_round
    case rel => exact ⟨k + 1, by omega, by go_num, hy⟩
    case measure => simp [intOf]; omega
  ·have hkn : k = n := by omega
   subst hkn;clear h
   go_wp2
   go_ret;have hy := ha.out
   rw [List.take_of_length_le (by rw [hlen.out]; exact zR)] at hy;exact ⟨ret_i (by rw [idxZ_none hy]), rfl⟩
abbrev Arc := Int × ByteArray × Int
def av (a : Arc) : List Value := [.int .i64 a.1, .string a.2.1, .int .i64 a.2.2]
theorem flat_av : Go.Proofs.YtnhomkmfbngmgaaGreatDoor.Flat av 3 := ⟨fun _ => rfl, fun x u h => by simp [av] at h; rcases h with rfl | rfl | rfl <;> rfl⟩
abbrev SlA := Sl 3 av
theorem SlA.get {w : World} {lo hi n : Nat} {A : Option Addr} {l : List Arc} (h : SlA w lo hi A n l) {k : Nat} (hk : k < n) :
  ∃ b off x y z, A = some ⟨b, off, none⟩ ∧ lo ≤ b ∧ b < hi ∧ b < w.heap.size ∧ l[k]? = some (x, y, z) ∧ w.cell? ⟨b, off + k * 3, none⟩ = some (.int .i64 x) ∧ w.cell? ⟨b, off + k * 3 + 1, none⟩ = some (.string y) ∧ w.cell? ⟨b, off + k * 3 + 2, none⟩ = some (.int .i64 z) := by
 obtain ⟨b, off, e, g1, g2, g3, hc⟩ := h.at_ (by omega);have hl : k < l.length := by rw [h.len]; exact hk
 have h0 := hc k l[k] (List.getElem?_eq_getElem hl) 0 _ rfl;have h1 := hc k l[k] (List.getElem?_eq_getElem hl) 1 _ rfl;have h2 := hc k l[k] (List.getElem?_eq_getElem hl) 2 _ rfl;rw [← Nat.add_assoc] at h1 h2;exact ⟨b, off, l[k].1, l[k].2.1, l[k].2.2, e, g1, g2, g3, List.getElem?_eq_getElem hl, h0.1, h1.1, h2.1⟩
theorem info_arc : (Tryz.prog.info? 204).map (fun i => (i.zero, i.size, i.bytes)) = some (some (.agg #[.int .i64 0, .string ByteArray.empty, .int .i64 0]), 3, 32) := by kernel_rfl
theorem elem_arc : Elem Tryz.prog 155 204 3 32 := Elem.of Tryz.underlying155 info_arc rfl (by decide) (by decide)
def arcD (L : List ByteArray) (a : Arc) : Ed := (a.1, idxZ L a.2.1, a.2.2)
def ltsEs (ls : List ByteArray) (rs : List Arc) : List Ed := Lib.compact (sortE (rs.map (arcD (joiF ls))))
theorem LtsBox.set2 {w : World} {g : Nat} {st ini : Int} {A B A' : Option Addr} {n c m d n' c' : Nat} (h : LtsBox w g st ini A n c B m d) : LtsBox (w.setCell ⟨g, 2, none⟩ (.slice A' n' c')) g st ini A' n' c' B m d := heap_setCell_same w g 2 _ _ _ h
theorem LtsBox.set3 {w : World} {g : Nat} {st ini : Int} {A B B' : Option Addr} {n c m d m' d' : Nat} (h : LtsBox w g st ini A n c B m d) : LtsBox (w.setCell ⟨g, 3, none⟩ (.slice B' m' d')) g st ini A n c B' m' d' := heap_setCell_same w g 3 _ _ _ h
theorem LtsBox.grown {w w' : World} {row : Option Nat} {g : Nat} {st ini : Int} {A B : Option Addr} {n c m d : Nat} (h : LtsBox w g st ini A n c B m d) (hg : w.grownBy w' row) (hne : some g ≠ row) : LtsBox w' g st ini A n c B m d := by
 have h1 := hg.block g h.lt hne;exact h1.trans h
theorem Own.asideL {α : Type} {size : Nat} {f : α → List Value} {w : World} {base n c : Nat} {e : TypeId} {A : Option Addr} {l : List α} (h : Own size f w base e A n c l) {g j : Nat} (hne : some g ≠ (Value.slice A n c).ownBlock) (v : Value) : Own size f (w.setCell ⟨g, j, none⟩ v) base e A n c l :=
 h.keep fun q hq => (((Only.refl g (g + 1) w).setCell (p := ⟨g, j, none⟩) zR (Nat.lt_succ_self _) v).block q (h.lt q hq).2 (by
  have : g ≠ q := fun e => hne (by rw [e, hq])
  omega))
theorem Own.le_cap {α : Type} {size : Nat} {f : α → List Value} {w : World} {base n c : Nat} {e : TypeId} {A : Option Addr} {l : List α} (h : Own size f w base e A n c l) : n ≤ c := by
 rcases h.2.2 with ⟨hv, hn⟩ | ⟨g, cap, cur, hv, hb, hg, hnc, -⟩
 ·omega
 ·cases hv
  exact hnc
structure LtmL (w wr : World) (g9 w0s : Nat) (s i : Int) (A1 : Option Addr) (n2 c1 : Nat) (J : List ByteArray) (A3 : Option Addr) (k c3 : Nat) (E : List Ed) : Prop where
 box : LtsBox wr g9 s i A1 n2 c1 A3 k c3
 res : LtsBox wr w.heap.size 0 0 none 0 0 none 0 0
 labs : Own 1 strv wr w0s 9 A1 n2 c1 J
 eds : Own 3 ev wr (g9 + 1) 84 A3 k c3 E
 bel : Below w.heap.size w wr
 base : w.heap.size < w0s ∧ w0s ≤ g9
 lt : ∀ q, (Value.slice A1 n2 c1).ownBlock = some q → q < g9
section
variable {w wr w' : World} {g9 w0s : Nat} {s i : Int} {A1 : Option Addr} {n2 c1 : Nat} {J : List ByteArray} {A3 : Option Addr} {k c3 : Nat} {E : List Ed}
theorem LtmL.below (h : LtmL w wr g9 w0s s i A1 n2 c1 J A3 k c3 E) (hb : Below wr.heap.size wr w') : LtmL w w' g9 w0s s i A1 n2 c1 J A3 k c3 E where
 box := h.box.below hb h.box.lt
 res := h.res.below hb h.res.lt
 labs := h.labs.below hb zR
 eds := h.eds.below hb zR
 bel := h.bel.trans (hb.mono h.bel.size)
 base := h.base
 lt := h.lt
theorem LtmL.same (h : LtmL w wr g9 w0s s i A1 n2 c1 J A3 k c3 E) {E' : List Ed} (hg : wr.grownBy w' (Value.slice A3 k c3).ownBlock) (ho : Own 3 ev w' (g9 + 1) 84 A3 k c3 E') : LtmL w w' g9 w0s s i A1 n2 c1 J A3 k c3 E' := by
 have hb0 := h.base;have ha : ∀ q, q ≤ g9 → some q ≠ (Value.slice A3 k c3).ownBlock := fun q hq e => by
  have := (h.eds.lt q e.symm).1;omega
 exact ⟨h.box.grown hg (ha _ zR), h.res.grown hg (ha _ (by omega)), h.labs.keep fun q hq => hg.block q (h.labs.lt q hq).2 (ha q (by have := h.lt q hq; omega)), ho, h.bel.grown hg h.bel.size fun q e => by have := (h.eds.lt q e).1; omega, hb0, h.lt⟩
theorem LtmL.grown (h : LtmL w wr g9 w0s s i A1 n2 c1 J A3 k c3 E) {A7 : Option Addr} {k7 c7 : Nat} {E' : List Ed} (hg : wr.grownBy w' (Value.slice A3 k c3).ownBlock) (ho : Own 3 ev w' (g9 + 1) 84 A7 k7 c7 E') : LtsBox w' g9 s i A1 n2 c1 A3 k c3 ∧ LtmL w (w'.setCell ⟨g9, 3, none⟩ (.slice A7 k7 c7)) g9 w0s s i A1 n2 c1 J A7 k7 c7 E' := by
 have hb0 := h.base;have ha : ∀ q, q ≤ g9 → some q ≠ (Value.slice A3 k c3).ownBlock := fun q hq e => by
  have := (h.eds.lt q e.symm).1;omega
 have hbx := h.box.grown hg (ha _ zR);have hrs := h.res.grown hg (ha _ (by omega));have hO : Only g9 (g9 + 1) w' (w'.setCell ⟨g9, 3, none⟩ (.slice A7 k7 c7)) := (Only.refl g9 (g9 + 1) w').setCell (p := ⟨g9, 3, none⟩) zR (Nat.lt_succ_self _) _;have hbel : Below w.heap.size w w' := h.bel.grown hg h.bel.size fun q e => by have := (h.eds.lt q e).1; omega
 refine ⟨hbx, hbx.set3, hrs.only hO (.inl (by omega)), ?_, ?_, Only.below hbel hO (by omega) hbel.size, hb0, h.lt⟩
 ·have hl : Own 1 strv w' w0s 9 A1 n2 c1 J := h.labs.keep fun q hq => hg.block q (h.labs.lt q hq).2 (ha q (by have := h.lt q hq; omega))
  exact hl.asideL (fun e => by have := h.lt _ e.symm; omega) _
 ·exact ho.asideL (fun e => by have := (ho.lt _ e.symm).1; omega) _
end
theorem Own.sink {α : Type} {size : Nat} {f : α → List Value} {w : World} {base base' n c : Nat} {e : TypeId} {A : Option Addr} {l : List α} (h : Own size f w base e A n c l) (hb : base' ≤ base) : Own size f w base' e A n c l := by
 refine ⟨h.1, h.2.1, ?_⟩
 rcases h.2.2 with hn | ⟨g, cap, cur, hv, hg, rest⟩
 ·exact .inl hn
 ·exact .inr ⟨g, cap, cur, hv, by omega, rest⟩
theorem LtmL.done {w wr : World} {g9 w0s : Nat} {s i : Int} {A1 : Option Addr} {n2 c1 : Nat} {J : List ByteArray} {A3 : Option Addr} {k c3 : Nat} {E : List Ed} (h : LtmL w wr g9 w0s s i A1 n2 c1 J A3 k c3 E) {wf : World} (a b c d : Value)
  (hw : wf = (((wr.setCell ⟨w.heap.size, 0, none⟩ a).setCell ⟨w.heap.size, 1, none⟩ b).setCell ⟨w.heap.size, 2, none⟩ c).setCell ⟨w.heap.size, 3, none⟩ d) :
  SlS wf w.heap.size wf.heap.size A1 n2 J ∧ Own 3 ev wf w.heap.size 84 A3 k c3 E ∧ Below w.heap.size w wf := by
 have hb0 := h.base;have n1 : some w.heap.size ≠ (Value.slice A1 n2 c1).ownBlock := fun e => by have := (h.labs.lt _ e.symm).1; omega
 have n3 : some w.heap.size ≠ (Value.slice A3 k c3).ownBlock := fun e => by have := (h.eds.lt _ e.symm).1; omega
 have o1 := (Only.refl w.heap.size (w.heap.size + 1) wr).setCell (p := ⟨w.heap.size, 0, none⟩) zR (Nat.lt_succ_self _) a;have o2 := o1.setCell (p := ⟨w.heap.size, 1, none⟩) zR (Nat.lt_succ_self _) b;have o3 := o2.setCell (p := ⟨w.heap.size, 2, none⟩) zR (Nat.lt_succ_self _) c;have o4 := o3.setCell (p := ⟨w.heap.size, 3, none⟩) zR (Nat.lt_succ_self _) d;rw [hw];refine ⟨?_, ?_, Only.below h.bel o4 zR h.bel.size⟩
 ·exact (((((h.labs.asideL n1 _).asideL n1 _).asideL n1 _).asideL n1 _).sl flat_strv).more (by omega) zR
 ·exact (((((h.eds.asideL n3 _).asideL n3 _).asideL n3 _).asideL n3 _)).sink (by omega)
theorem ltsC_calls (s i : Int) (A : Option Addr) (n c : Nat) (ls : List ByteArray) (B : Option Addr) (m d : Nat) (rs : List Arc) (w : World) (lo hi lo2 hi2 : Nat) (hA : SlS w lo hi A n ls) (hhi : hi ≤ w.heap.size) (hn : n ≤ 100000) (hB : SlA w lo2 hi2 B m rs) (hhi2 : hi2 ≤ w.heap.size) (hm : m ≤ 100000000) :
  Calls Tryz.prog 134 #[.int .i64 s, .int .i64 i, .slice A n c, .slice B m d] w fun e w' => ∃ A2 n2 c2 A3 n3 c3, e = .returned (.agg #[.int .i64 s, .int .i64 i, .slice A2 n2 c2, .slice A3 n3 c3]) ∧ SlS w' w.heap.size w'.heap.size A2 n2 (joiF ls) ∧ Own 3 ev w' w.heap.size 84 A3 n3 c3 (ltsEs ls rs) ∧ Below w.heap.size w w' ∧ n2 ≤ c2 := by
 have hEs := hide elem_str;have hEe := hide elem_edge;have hlA := hide hA.len;have hlB := hide hB.len;obtain ⟨w0, hw0⟩ : ∃ w0, w0 = w.alloc (.cells #[.int .i64 0, .int .i64 0, .slice none 0 0, .slice none 0 0] 27) := ⟨_, rfl⟩;have hb0 : Below w.heap.size w w0 := by rw [hw0]; exact bR.alloc zR _
 have hz0 : w0.heap.size = w.heap.size + 1 := by rw [hw0]; exact World.size_alloc _ _
 have k0 : w0.heap[w.heap.size]? = some (.cells #[.int .i64 0, .int .i64 0, .slice none 0 0, .slice none 0 0] 27 (0, 0)) := by rw [hw0]; exact heap_alloc_new w _
 have k1 := heap_alloc_new w0 (.cells #[.string (⟨#[116, 97, 117]⟩ : ByteArray)] 9);have hst : Hid (Own 1 strv (w0.alloc (.cells #[.string (⟨#[116, 97, 117]⟩ : ByteArray)] 9)) w0.heap.size 9 (some ⟨w0.heap.size, 0, none⟩) 1 1 [(⟨#[116, 97, 117]⟩ : ByteArray)]) := Own.litL k1 rfl zR;have hb1 := hide (hb0.alloc (by omega) (.cells #[.string (⟨#[116, 97, 117]⟩ : ByteArray)] 9));have hA1 := hide (hA.below hb1.out (.inl hhi));have hz1 : (w0.alloc (.cells #[.string (⟨#[116, 97, 117]⟩ : ByteArray)] 9)).heap.size = w0.heap.size + 1 := World.size_alloc _ _;have hza : w0.heap.size ≤ (w0.alloc (.cells #[.string (⟨#[116, 97, 117]⟩ : ByteArray)] 9)).heap.size := by omega
 replace hB := hide hB;clear hA k1;go_enter Tryz.func134, Tryz.ntmps134;go_upto_region 1 with fail;rw [← show w0 = _ from hw0];replace hw0 := hide hw0;replace hz0 := hide hz0;replace hz1 := hide hz1;go_upto_region 2 with (first | (at_builtin; (with_reducible refine wpList_app rfl (.tmp 14) (.tmp 15) rfl hEs.out flat_strv rfl hst.out rfl hA1.out ?d1 hza ?_); rotate_right; intro A1 c1 w1 hown1 hgr1 hbw1 hat1))
 case d1 => omega
 obtain ⟨w2, hw2⟩ : ∃ w2, w2 = w1.alloc (.cells #[.int .i64 s, .int .i64 i, .slice A1 (1 + n) c1, .slice none 0 0] 27) := ⟨_, rfl⟩;have hBx2 : Hid (LtsBox w2 w1.heap.size s i A1 (1 + n) c1 none 0 0) := by rw [hw2]; exact heap_alloc_new w1 _
 have hO2 : Hid (Own 1 strv w2 w0.heap.size 9 A1 (1 + n) c1 (tauB :: ls)) := by rw [hw2]; exact hown1.alloc _
 have hb2 : Hid (Below w.heap.size w w2) := by
  rw [hw2];have := hz0.out;exact (hb1.out.trans (hbw1.mono (by omega))).alloc (Nat.le_trans hb1.out.size hbw1.size) _
 have hRs2 : LtsBox w2 w.heap.size 0 0 none 0 0 none 0 0 := by
  have e0 : LtsBox w0 w.heap.size 0 0 none 0 0 none 0 0 := k0;have e1 : LtsBox w1 w.heap.size 0 0 none 0 0 none 0 0 := (e0.below (K := w0.heap.size) (bR.alloc zR _) e0.lt).below hbw1 e0.lt;rw [hw2];exact e1.below (K := w1.heap.size) (bR.alloc zR _) e1.lt
 have hng : ∀ q, (Value.slice A1 (1 + n) c1).ownBlock = some q → w0.heap.size ≤ q ∧ q < w1.heap.size := hown1.lt;have hz1b : Hid (w0.heap.size ≤ w1.heap.size) := by have := hgr1.size; show _ ≤ _; omega
 have hqS := hide (sortL_calls hO2.out (by omega));have b2 := hBx2.out.c2;rw [← hw2];replace hw2 := hide hw2;clear hown1 hgr1 hbw1 hat1 hst hza;go_upto_region 3 with (first | (go_at_call 225; (with_reducible refine hqS.out.mono ?_); rintro e w3 ⟨rfl, hO3, hg3⟩));have hnb : some w1.heap.size ≠ (Value.slice A1 (1 + n) c1).ownBlock := fun e => by have := (hng _ e.symm).2; omega
 have hBx3 := hBx2.out.grown hg3 hnb;have hb3 := hide (hb2.out.grown hg3 hb2.out.size fun q e => by have := (hng q e).1; have := hz0.out; omega);obtain ⟨n2, hn2⟩ : ∃ n2, n2 = (Lib.compact (((tauB :: ls).map toL).mergeSort fun x y => !(ltL y x))).length := ⟨_, rfl⟩;have hqC := compactD_calls hO3 (by omega);rw [← hn2] at hqC;have hJl : Hid ((joiF ls).length = n2) := by show _ = _; unfold joiF; rw [List.length_map, hn2]
 have hn2b : n2 ≤ n + 1 := by
  rw [hn2];refine Nat.le_trans (Go.Lib.compact_length_le _) ?_;rw [List.length_mergeSort, List.length_map, List.length_cons, hlA.out];exact zR
 replace hn2 := hide hn2;replace hqC := hide hqC;have hO3l := hide (fun q hq => (hO3.lt q hq).2);have hz3 := hg3.size;have hrs3 : LtsBox w3 w.heap.size 0 0 none 0 0 none 0 0 := hRs2.grown hg3 fun e => by have := (hng _ e.symm).1; have := hz0.out; omega
 have c23 := hBx3.c2;clear hO3 hO2 hBx2 hqS b2;replace hBx3 := hide hBx3;go_upto_region 4 with (first | (go_at_call 227; (with_reducible refine hqC.out.mono ?_); rintro e w4 ⟨rfl, hO4, hg4⟩; have hBx4 := hBx3.out.grown hg4 hnb; have c24 := hBx4.c2; have f24 := hBx4.f2));have hL : Hid (LtmL w (w4.setCell ⟨w1.heap.size, 2, none⟩ (.slice A1 n2 c1)) w1.heap.size w0.heap.size s i A1 n2 c1 (joiF ls) none 0 0 []) := by
  have hO : Only w1.heap.size (w1.heap.size + 1) w4 (w4.setCell ⟨w1.heap.size, 2, none⟩ (.slice A1 n2 c1)) := (Only.refl _ _ _).setCell (p := ⟨w1.heap.size, 2, none⟩) zR (Nat.lt_succ_self _) _;have e1 := hz0.out;have e2 := hz1b.out;have hb4 : Below w.heap.size w w4 := hb3.out.grown hg4 hb3.out.size fun q e => by have := (hng q e).1; omega
  have hr4 := hrs3.grown hg4 fun e => by have := (hng _ e.symm).1; omega
  have hng2 : ∀ q, (Value.slice A1 n2 c1).ownBlock = some q → w0.heap.size ≤ q ∧ q < w1.heap.size := by
   intro q hq;refine hng q ?_
   cases A1 with
   | none => exact hq
   | some a => exact hq
  exact ⟨hBx4.set2, hr4.only hO (.inl (by omega)), hO4.asideL (fun e => by have := (hng2 _ e.symm).2; omega) _, Own.nil_ _ _ _, Only.below hb4 hO (by omega) hb4.size, ⟨by omega, e2⟩, fun q hq => (hng2 q hq).2⟩
 generalize w4.setCell ⟨w1.heap.size, 2, none⟩ (.slice A1 n2 c1) = w5 at *;clear hO4 hg4 hBx4 c24 f24 hBx3 c23 hqC hrs3 hRs2 hz3 hO3l hg3 hnb hng hb3 hb2 hz1b;generalize w1.heap.size = g9 at *;obtain ⟨es, hes⟩ : ∃ es, es = rs.map (arcD (joiF ls)) := ⟨_, rfl⟩;go_wp2_with fail
 go_loopw [27] (fun v27 wr => ∃ (k : Nat) (A3 : Option Addr) (c3 : Nat), k ≤ m ∧ v27 = .int .i64 (k : Nat) ∧ Hid (LtmL w wr g9 w0.heap.size s i A1 n2 c1 (joiF ls) A3 k c3 (es.take k))) (fun v _ => m - (intOf v).toNat)
 case atStart => exact ⟨0, none, 0, Nat.zero_le _, rfl, hL.out⟩
 case round =>
  clear hL;obtain ⟨k, A3, c3, hk, rfl, hL⟩ := hrel
  by_cases hlt : k < m
  ·obtain ⟨gB, oB, f, lb, t, rfl, -, -, hgB, hx, x0, x1, x2⟩ := SlA.get (hB.out.below hL.out.bel (.inl hhi2)) hlt
   have k0 : (0 : Int) ≤ (k : Int) := by omega
   have k1 : (k : Int) < (m : Int) := by omega
   have hes1 : Hid (es.take (k + 1) = es.take k ++ [(f, idxZ (joiF ls) lb, t)]) := by
    show _ = _
    rw [List.take_add_one, hes, List.getElem?_map, hx]
    rfl
   replace hx := hide hx;replace hes := hide hes;obtain ⟨bA, hbA⟩ : ∃ bA, bA = wr.heap.size := ⟨_, rfl⟩;obtain ⟨z, hz⟩ : ∃ z, z = idxZ (joiF ls) lb := ⟨_, rfl⟩;obtain ⟨wA, hwA⟩ : ∃ wA, wA = wr.alloc (.cells #[.int .i64 f, .string lb, .int .i64 t] 204) := ⟨_, rfl⟩;have hLA := hL.out.below (w' := wA) (by rw [hwA]; exact bR.alloc zR _);have ka : wA.heap[bA]? = some (.cells #[.int .i64 f, .string lb, .int .i64 t] 204 (0, 0)) := by rw [hwA, hbA]; exact heap_alloc_new wr _
   obtain ⟨wD, hwD⟩ : ∃ wD, wD = wA.drew := ⟨_, rfl⟩;have hLD := hide (hLA.below (w' := wD) (by rw [hwD]; exact bR.drew));have kd : wD.heap[bA]? = some (.cells #[.int .i64 f, .string lb, .int .i64 t] 204 (0, 0)) := by rw [hwD]; exact ka
   have hbD : bA < wD.heap.size := (Array.getElem?_eq_some_iff.1 kd).1;have b2 := hLD.out.box.c2;have b3 := hLD.out.box.c3;have e0 := (cell_of_row _ _ 0 _ _ (0, 0) kd).trans (show _ = some (Value.int .i64 f) from rfl);have e1 := (cell_of_row _ _ 1 _ _ (0, 0) kd).trans (show _ = some (Value.string lb) from rfl);have e2 := (cell_of_row _ _ 2 _ _ (0, 0) kd).trans (show _ = some (Value.int .i64 t) from rfl);have hqI := indexZ_calls lb A1 n2 c1 (joiF ls) wD _ _ (hLD.out.labs.sl flat_strv) (by omega);rw [← hz] at hqI hes1;replace hqI := hide hqI;obtain ⟨wL, hwL⟩ : ∃ wL, wL = wD.alloc (.cells #[.int .i64 f, .int .i64 z, .int .i64 t] 84) := ⟨_, rfl⟩;have hblL : Below wD.heap.size wD wL := by rw [hwL]; exact bR.alloc zR _
   have hLL := hide (hLD.out.below hblL);have hOL := hide hLL.out.eds;have a2 := hLL.out.box.c2;have a3 := hLL.out.box.c3;have a4 := (hblL.cell (p := ⟨bA, 0, none⟩) hbD).trans e0;have a5 := (hblL.cell (p := ⟨bA, 1, none⟩) hbD).trans e1;have a6 := (hblL.cell (p := ⟨bA, 2, none⟩) hbD).trans e2;have hbL : bA < wL.heap.size := Nat.lt_of_lt_of_le hbD hblL.size;have hnA : some bA ≠ (Value.slice A3 k c3).ownBlock := fun e => by have := (hL.out.eds.lt bA e.symm).2; omega
   have hlit : Hid (Sl 3 ev wL 0 (wD.heap.size + 1) (some ⟨wD.heap.size, 0, none⟩) 1 [(f, z, t)]) := by
    rw [hwL];exact Sl.lit1' (f := ev) wD 84 (f, z, t) #[.int .i64 f, .int .i64 z, .int .i64 t] rfl 3 _ rfl
   have hsz : (k + 1) * 24 ≤ 140737488355328 := by omega
   have hza : g9 + 1 ≤ wL.heap.size := hLL.out.box.lt;go_upto_region 7 with fail;rw [← show bA = _ from hbA];rw [← show wA = _ from hwA];replace hwA := hide hwA;replace hwD := hide hwD;replace hbA := hide hbA;replace hz := hide hz;replace hwL := hide hwL;clear x0 x1 x2 kd ka hLA hblL;refine lateT_begin (S := fun w' => w'.cell? ⟨g9, 2, none⟩ = some (.slice A1 n2 c1) ∧ w'.cell? ⟨g9, 3, none⟩ = some (.slice A3 k c3) ∧ w'.cell? ⟨bA, 0, none⟩ = some (.int .i64 f) ∧ w'.cell? ⟨bA, 1, none⟩ = some (.string lb) ∧ w'.cell? ⟨bA, 2, none⟩ = some (.int .i64 t)) (st := 15) (by kernel_rfl) ?_;rw [← show wD = _ from hwD.out];have hS0 : (fun w' : World => w'.cell? ⟨g9, 2, none⟩ = some (.slice A1 n2 c1) ∧ w'.cell? ⟨g9, 3, none⟩ = some (.slice A3 k c3) ∧ w'.cell? ⟨bA, 0, none⟩ = some (.int .i64 f) ∧ w'.cell? ⟨bA, 1, none⟩ = some (.string lb) ∧ w'.cell? ⟨bA, 2, none⟩ = some (.int .i64 t)) wD := ⟨b2, b3, e0, e1, e2⟩;refine tkB 0 [15] hS0 ?_;refine tkB 1 [15] hS0 ?_;refine tkB 2 [15] hS0 ?_;refine tkB 3 [15] hS0 ?_;refine tkB 4 [15] hS0 ?_;refine tkB 5 [15] hS0 ?_;refine tkB 6 [15] hS0 ?_;refine tkB 7 [15] hS0 ?_;refine tkB 9 [15] hS0 ?_;refine tkB 10 [15] hS0 ?_;refine lS 8 fun K hK => ?_
   go_simp;go_at_call 185
   refine hqI.out.mono ?_;rintro e w6 ⟨rfl, e6⟩;rw [e6];clear e6 w6;go_wp2_with fail;refine kP hK (fun _ => ⟨b2, b3, e0, e1, e2⟩) ?_;clear hK K;refine lS 11 fun K hK => ?_
   go_simp;refine kP hK (fun _ => ⟨b2, b3, e0, e1, e2⟩) ?_
   clear hK K;refine lS 12 fun K hK => ?_
   go_simp;rw [← show wL = _ from hwL.out]
   refine kP hK (fun _ => ⟨a2, a3, a4, a5, a6⟩) ?_;clear hK K;refine lS 13 fun K hK => ?_
   refine step_appL (m := 1) (d := 1) (by rfl) (.tmp 32) (.tmp 43) (by rfl) hEe.out flat_ev (by go_simp) hOL.out (by go_simp) hlit.out hsz hza ?_;intro A7 c7 w7 hown7 hgr7 hb7 hat7;obtain ⟨hbx7, hL8⟩ := hLL.out.grown hgr7 hown7;have d2 := hbx7.c2;have d3 := hbx7.c3;have df := hbx7.f3;have d4 := grown_cell8 hgr7 hbL hnA a4;have d5 := grown_cell8 hgr7 hbL hnA a5;have d6 := grown_cell8 hgr7 hbL hnA a6;refine kP hK (fun _ => ⟨d2, d3, d4, d5, d6⟩) ?_;clear hK K;refine lS 14 fun K hK => ?_
   go_simp;refine kP hK (fun _ => ⟨d2, d3, d4, d5, d6⟩) ?_
   clear hK K;refine lS 15 fun K hK => ?_
   go_simp;refine kP hK nH ?_
   clear hK K;refine lateT_done (by kernel_rfl) ?_ _;have hL9 := hL8;rw [← hes1.out] at hL9;replace hL9 := hide hL9;clear hL8 hown7 hgr7 hb7 hat7 hbx7;go_wp2_with fail;go_roundw
   case rel => exact ⟨k + 1, A7, c7, by omega, by go_num, hL9.out⟩
   case measure => simp [intOf]; omega
  ·obtain rfl : k = m := by omega
   have hLm := hL.out;rw [List.take_of_length_le (by rw [hes, List.length_map, hlB.out]; exact zR)] at hLm;have c3a := hLm.box.c3;have hqS := hide (sortE_calls hLm.eds (by omega));replace hLm := hide hLm;replace hes := hide hes;clear hL;go_upto_region 10 with (first | (go_at_call 132; (with_reducible refine hqS.out.mono ?_); rintro e w6 ⟨rfl, hO6, hg6⟩));have hL6 := hLm.out.same hg6 hO6;have c36 := hL6.box.c3;obtain ⟨n3, hn3⟩ : ∃ n3, n3 = (Lib.compact (sortE es)).length := ⟨_, rfl⟩;have hqC := compactE_calls hO6 (by omega) hO6.le_cap;rw [← hn3] at hqC;replace hqC := hide hqC;replace hL6 := hide hL6;replace hn3 := hide hn3;clear hO6 hg6 hqS c3a hLm;go_upto_region 11 with (first | (go_at_call 228; (with_reducible refine hqC.out.mono ?_); rintro e w7 ⟨rfl, hO7, hg7⟩; obtain ⟨hbx7, hL8⟩ := hL6.out.grown hg7 hO7; have c37 := hbx7.c3; have f37 := hbx7.f3));obtain ⟨w8, hw8⟩ : ∃ w8, w8 = w7.setCell ⟨g9, 3, none⟩ (.slice A3 n3 c3) := ⟨_, rfl⟩;rw [← hw8] at hL8;have y0 := hL8.box.c0;have y1 := hL8.box.c1;have y2 := hL8.box.c2;have y3 := hL8.box.c3;have r0 := hL8.res.c0;have r1 := hL8.res.c1;have r2 := hL8.res.c2;have r3 := hL8.res.c3;have v0 := hL8.res.f0;have v1 := hL8.res.f1;have v2 := hL8.res.f2;have v3 := hL8.res.f3;rw [← show w8 = _ from hw8];replace hL8 := hide hL8;replace hw8 := hide hw8;clear c37 f37 hbx7 hO7 hg7 hqC hL6 c36;go_wp2_with fail
   (try simp only [Exit.inBlock, Exit.then])
   refine bodyPost_ret_by (v := .agg #[.int .i64 s, .int .i64 i, .slice A1 n2 c1, .slice A3 n3 c3]) ?_ rfl ?_
   focus
    rw [results_cell1 rfl];go_simp
   obtain ⟨f1, f2, f3⟩ := hL8.out.done (.int .i64 s) (.int .i64 i) (.slice A1 n2 c1) (.slice A3 n3 c3) rfl;refine ⟨A1, n2, c1, A3, n3, c3, rfl, f1, ?_, f3, hL8.out.labs.le_cap⟩;unfold ltsEs;rw [← hes.out];exact f2
theorem lts_calls (s i : Int) (A : Option Addr) (n c : Nat) (ls : List ByteArray) (B : Option Addr) (m d : Nat) (rs : List Arc) (w : World) (lo hi lo2 hi2 : Nat) (hA : SlS w lo hi A n ls) (hhi : hi ≤ w.heap.size) (hn : n ≤ 100000) (hB : SlA w lo2 hi2 B m rs) (hhi2 : hi2 ≤ w.heap.size) (hm : m ≤ 100000000) :
  Calls Tryz.prog 134 #[.int .i64 s, .int .i64 i, .slice A n c, .slice B m d] w fun e w' => ∃ A2 n2 c2 A3 n3 c3, e = .returned (.agg #[.int .i64 s, .int .i64 i, .slice A2 n2 c2, .slice A3 n3 c3]) ∧ SlS w' w.heap.size w'.heap.size A2 n2 (joiF ls) ∧ Own 3 ev w' w.heap.size 84 A3 n3 c3 (ltsEs ls rs) ∧ Below w.heap.size w w' :=
 (ltsC_calls s i A n c ls B m d rs w lo hi lo2 hi2 hA hhi hn hB hhi2 hm).mono (by
  rintro e w' ⟨A2, n2, c2, A3, n3, c3, h1, h2, h3, h4, -⟩;exact ⟨A2, n2, c2, A3, n3, c3, h1, h2, h3, h4⟩)
end Go.Proofs.YtnhomkmfbngmgaaGreatDoor
