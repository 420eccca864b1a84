/-
  Lemmas that the law of this claim leans on. Conditions: sizes.
-/
import Derived.Test.YtnhomkmfbngmgaaGreatDoorBaseA
import Derived.Test.YtnhomkmfbngmgaaGreatDoorBaseB
import Derived.Test.YtnhomkmfbngmgaaGreatDoorBaseC
import Derived.Test.YtnhomkmfbngmgaaGreatDoorBaseE
import Derived.Test.YtnhomkmfbngmgaaGreatDoorBaseG
import Derived.Test.YtnhomkmfbngmgaaGreatDoorBaseH
import Derived.Test.YtnhomkmfbngmgaaGreatDoorBaseK
import Derived.Deep.CutBlock
import Derived.Test.YtnhomkmfbngmgaaGreatDoorTie
import Derived.Test.YtnhomkmfbngmgaaGreatDoorCards
set_option maxHeartbeats 12800000
set_option maxRecDepth 100000
set_option linter.unusedSimpArgs false
set_option linter.unusedVariables false
namespace Go.Proofs.YtnhomkmfbngmgaaGreatDoor
open Go.ChangeShapes Go.WideShapes Go.ChangeAt Go.RowKit Go.Sort
def CapE (e : Ending) : Prop := ∀ s i A n c v, e = .returned (.agg #[s, i, .slice A n c, v]) → n ≤ c
theorem CapE.of {s i v : Value} {A : Option Addr} {n c : Nat} (h : n ≤ c) : CapE (.returned (.agg #[s, i, .slice A n c, v])) := fun s' i' A' n' c' v' e => by
 injection e with e;injection e with e;injection e with e;injection e with e1 e;injection e with e2 e;injection e with e3 e;injection e3 with e4 e5 e6;omega
theorem l11MakeC_calls (st ini : Int) (A : Option Addr) (n c : Nat) (ts : List ByteArray) (B : Option Addr) (m d : Nat) (es : List Ed) (w : World) (hs : SlS w 0 w.heap.size A n ts) (he : SlE w 0 w.heap.size B m es) (hl : ∀ e, e ∈ es → 0 ≤ e.2.1 ∧ e.2.1 < (n : Int)) (hn : n ≤ 99999) (hm : m ≤ 99999) :
  Calls Tryz.prog 94 #[.int .i64 st, .int .i64 ini, .slice A n c, .slice B m d] w fun e w' => ∃ A2 n2 c2 B2 m2 d2 es2, e = .returned (.agg #[.int .i64 st, .int .i64 ini, .slice A2 n2 c2, .slice B2 m2 d2]) ∧ SlS w' w.heap.size w'.heap.size A2 n2 (joiF ts) ∧ SlE w' w.heap.size w'.heap.size B2 m2 es2 ∧ MadeE ts es es2 ∧ Below w.heap.size w w' ∧ n2 ≤ c2 := by
 have hB0 := hide ((Below.refl w.heap.size w).alloc zR (.cells #[.int .i64 0, .int .i64 0, .slice none 0 0, .slice none 0 0] 27));have k8 := heap_alloc_new w (.cells #[.int .i64 0, .int .i64 0, .slice none 0 0, .slice none 0 0] 27);have hz1 : w.heap.size < (w.alloc (.cells #[.int .i64 0, .int .i64 0, .slice none 0 0, .slice none 0 0] 27)).heap.size := by simp
 obtain ⟨w1, hw1⟩ : ∃ w1, w1 = w.alloc (.cells #[.int .i64 0, .int .i64 0, .slice none 0 0, .slice none 0 0] 27) := ⟨_, rfl⟩;rw [← hw1] at hB0 k8 hz1;have qj := hide (l11Join_calls A n c ts w1 0 w.heap.size (hs.below hB0.out (.inl zR)) (by omega) (by omega));have hlen := hide he.len;have hlenS := hide hs.len;replace hs := hide hs;replace he := hide he;replace hl := hide hl;replace k8 := hide k8;go_enter Tryz.func94, Tryz.ntmps94;go_upto_region 1 with fail;rw [← hw1];replace hw1 := hide hw1;go_wp2_with fail;refine qj.out.mono ?_;rintro e w2 ⟨A2, n2, c2, rfl, hJ, hb2⟩;have hz2 := hb2.size;have hO0 := (Own.made (α := Ed) (size := 3) (f := ev) w2 84 zR).alloc (.cells #[.int .i64 st, .int .i64 ini, .slice A2 n2 c2, .slice (some ⟨w2.heap.size, 0, none⟩) 0 0] 27);have hbo := heap_alloc_new (w2.alloc (.cells #[] 84)) (.cells #[.int .i64 st, .int .i64 ini, .slice A2 n2 c2, .slice (some ⟨w2.heap.size, 0, none⟩) 0 0] 27);rw [World.size_alloc] at hbo;have hbL := ((Below.refl w2.heap.size w2).alloc zR (.cells #[] 84)).alloc (by rw [World.size_alloc]; omega) (.cells #[.int .i64 st, .int .i64 ini, .slice A2 n2 c2, .slice (some ⟨w2.heap.size, 0, none⟩) 0 0] 27);obtain ⟨wL, hwL⟩ : ∃ wL, wL = (w2.alloc (.cells #[] 84)).alloc (.cells #[.int .i64 st, .int .i64 ini, .slice A2 n2 c2, .slice (some ⟨w2.heap.size, 0, none⟩) 0 0] 27) := ⟨_, rfl⟩;rw [← hwL] at hO0 hbo hbL;replace hO0 := hide hO0;replace hbo := hide hbo;replace hbL := hide hbL;replace hJ := hide hJ;replace hb2 := hide hb2;obtain ⟨bo, hboe⟩ : ∃ bo, bo = w2.heap.size + 1 := ⟨_, rfl⟩;rw [← hboe] at hbo;have hJs := hide (hJ.out.sl flat_strv);have hjn := hide hJ.out.len;have hjc := hide hJ.out.le_cap;have hJlen : Hid ((joiF ts).length ≤ ts.length + 1) := by
  show _ ≤ _
  unfold joiF;rw [List.length_map];refine Nat.le_trans (Go.Lib.compact_length_le _) ?_;rw [List.length_mergeSort, List.length_map, List.length_cons];exact zR
 clear qj;go_upto_region 3 with fail;rw [← hwL, ← hboe];replace hwL := hide hwL;have hbow : w2.heap.size < bo := by omega
 replace hboe := hide hboe
 go_loopw [10] (fun i wr => ∃ (k : Nat) (E : Option Addr) (mm cc : Nat) (es1 : List Ed), k ≤ m ∧ i = .int .i64 (k : Nat) ∧ Hid (wr.heap[bo]? = some (.cells #[.int .i64 st, .int .i64 ini, .slice A2 n2 c2, .slice E mm cc] 27 (0, 0))) ∧ Hid (Own 3 ev wr w2.heap.size 84 E mm cc es1) ∧ Hid (MadeE ts (es.take k) es1) ∧ Hid (∀ g, (Value.slice E mm cc).ownBlock = some g → g ≠ bo) ∧ Hid (Below w2.heap.size w2 wr)) (fun i _ => m - (intOf i).toNat)
 case atStart => exact ⟨0, _, 0, 0, [], Nat.zero_le _, rfl, hbo.out, hO0.out, MadeE.start ts, (fun g e => by cases e; exact Nat.ne_of_lt hbow), hbL.out⟩
 case round =>
  clear hO0 hbo hbL;obtain ⟨k, E, mm, cc, es1, hk, rfl, hbo, hO, hM, hne, hb⟩ := hrel;have hb1 := hide (hb2.out.trans (hb.out.mono hz2));have hbw := hide (hB0.out.trans (hb1.out.mono (by omega)))
  by_cases hlt : k < m
  ·have k0 : (0 : Int) ≤ (k : Int) := by omega
   have k1 : (k : Int) < (m : Int) := by omega
   obtain ⟨gb, ob, f, lb, t, rfl, -, -, hgb, hx, x0, x1, x2, -⟩ := SlE.get (he.out.below hbw.out (.inl zR)) hlt;obtain ⟨hl0, hl1⟩ := hl.out _ (List.mem_of_getElem? hx)
   (try dsimp only at hl0 hl1)
   obtain ⟨l, rfl⟩ : ∃ l : Nat, lb = (l : Int) := ⟨lb.toNat, by omega⟩;have hbx := heap_alloc_new wr (.cells #[.int .i64 f, .int .i64 (l : Int), .int .i64 t] 84);obtain ⟨wE, hwE⟩ : ∃ wE, wE = wr.alloc (.cells #[.int .i64 f, .int .i64 (l : Int), .int .i64 t] 84) := ⟨_, rfl⟩;rw [← hwE] at hbx;obtain ⟨be, hbe⟩ : ∃ be, be = wr.heap.size := ⟨_, rfl⟩;rw [← hbe] at hbx;have hBE := hide ((hb.out.alloc hb.out.size (.cells #[.int .i64 f, .int .i64 (l : Int), .int .i64 t] 84)));rw [← hwE] at hBE;have hbwE := hB0.out.trans ((hb2.out.trans (hBE.out.mono hz2)).mono (by omega));obtain ⟨bA, oA, s, rfl, -, -, -, hts, cs, -⟩ := SlS.get (hs.out.below hbwE (.inl zR)) (show l < n by omega);have hbol : bo < wr.heap.size := (Array.getElem?_eq_some_iff.1 hbo.out).1;have hboE : wE.heap[bo]? = _ := ((show wE.heap[bo]? = wr.heap[bo]? by rw [hwE]; exact Below.heap_alloc _ _ _ hbol)).trans hbo.out;have c2' : wE.cell? ⟨bo, 2, none⟩ = some (.slice A2 n2 c2) := (cell_of_row _ _ 2 _ _ (0, 0) hboE).trans rfl;have y1 : wE.cell? ⟨be, 1, none⟩ = some (.int .i64 (l : Int)) := (cell_of_row _ _ 1 _ _ (0, 0) hbx).trans rfl;have z1 : wE.frozen? ⟨be, 1, none⟩ = false := frozen_of_row _ _ 1 _ _ hbx;have hbel : be < wE.heap.size := (Array.getElem?_eq_some_iff.1 hbx).1;have l0 : (0 : Int) ≤ (l : Int) := by omega
   have l1 : (l : Int) < (n : Int) := by omega
   have qf := hide (l11Find_calls s A2 n2 c2 (joiF ts) wE.drew _ _ ((hJs.out.below hBE.out (.inl zR)).drewN 1) (by
    have h1 := hjn.out;have h2 := hJlen.out;have h3 := hlenS.out
    omega))
   have hsm := hide (List.mem_of_getElem? hts);replace hx := hide hx;clear hts;go_upto_region 6 with fail;rw [← hwE, ← hbe];replace hwE := hide hwE;replace hbe := hide hbe;replace hbx := hide hbx;replace hboE := hide hboE;clear x0 x1 x2
   go_still_tail 7, (by kernel_rfl)
   change wpList _ _ _ _ _ wE.drew
   go_upto_region 7 with (first | (go_at_call 174; (with_reducible refine qf.out.mono ?_); rintro e w5 ⟨i, rfl, hfi, rfl⟩));obtain ⟨wF, hwG⟩ : ∃ wF, wF = (wE.setCell ⟨be, 1, none⟩ (.int .i64 i)).drew := ⟨_, rfl⟩;have hwF : wF = wE.drew.setCell ⟨be, 1, none⟩ (.int .i64 i) := by
    rw [hwG]
    first | rfl | simp
   have hbxF : Hid (wF.heap[be]? = some (.cells #[.int .i64 f, .int .i64 i, .int .i64 t] 84 (0, 0))) := by
    show _ = _
    rw [hwF];exact heap_setCell_same wE.drew be 1 _ _ (.int .i64 i) hbx.out
   have hsame : ∀ q, q ≠ be → wF.heap[q]? = wE.heap[q]? := fun q hq => by rw [hwF]; exact Below.heap_setCell _ _ _ _ hq
   have hbF : Hid (Below w2.heap.size w2 wF) := by
    show Below _ _ _
    rw [hwF];have h0 : Below w2.heap.size w2 wE.drew := hBE.out.trans ⟨rfl, rfl, rfl, zR, fun _ _ => rfl⟩;exact h0.setCell (p := ⟨be, 1, none⟩) (by show w2.heap.size ≤ be; rw [hbe.out]; exact hb.out.size) (.int .i64 i)
   have hEbe : ∀ q, (Value.slice E mm cc).ownBlock = some q → q < be := fun q e => by rw [hbe.out]; exact (hO.out.lt q e).2
   have hOF := hO.out.keep (w' := wF) fun q e => (hsame q (by have := hEbe q e; omega)).trans (by rw [hwE.out]; exact Below.heap_alloc _ _ _ (hO.out.lt q e).2)
   have hbne : bo ≠ be := by rw [hbe.out]; omega
   have hboF : wF.heap[bo]? = _ := (hsame bo hbne).trans hboE.out;have hboFl : bo < wF.heap.size := (Array.getElem?_eq_some_iff.1 hboF).1;have hM1 := hM.out.2.1;rw [List.length_take] at hM1;have hmm := hO.out.len;have qp := hide (l11Put_calls E mm cc es1 f i t wF w2.heap.size hOF hM.out.1 (by omega) hbF.out.size);have c3' : wF.cell? ⟨bo, 3, none⟩ = some (.slice E mm cc) := (cell_of_row _ _ 3 _ _ (0, 0) hboF).trans rfl;have b0 : wF.cell? ⟨be, 0, none⟩ = some (.int .i64 f) := (cell_of_row _ _ 0 _ _ (0, 0) hbxF.out).trans rfl;have b1 : wF.cell? ⟨be, 1, none⟩ = some (.int .i64 i) := (cell_of_row _ _ 1 _ _ (0, 0) hbxF.out).trans rfl;have b2 : wF.cell? ⟨be, 2, none⟩ = some (.int .i64 t) := (cell_of_row _ _ 2 _ _ (0, 0) hbxF.out).trans rfl;have hi := joi_find hsm.out hfi;have hne2 := hide hne.out;replace hboF := hide hboF;rw [← hwG];replace hwF := hide hwF;replace hwG := hide hwG;clear c2' y1 z1 cs qf hOF hsame;go_wp2_with fail;refine qp.out.mono ?_;rintro e w8 ⟨A8, n8, c8, es8, rfl, hO8, hP8, hb8, hG8, hr8⟩;have hbo8 : w8.heap[bo]? = _ := (hG8.block bo hboFl (fun e => hne2.out bo e.symm rfl)).trans hboF.out;have d3 : w8.cell? ⟨bo, 3, none⟩ = some (.slice E mm cc) := (cell_of_row _ _ 3 _ _ (0, 0) hbo8).trans rfl;have f3 : w8.frozen? ⟨bo, 3, none⟩ = false := frozen_of_row _ _ 3 _ _ hbo8;have hbo9 : Hid ((w8.setCell ⟨bo, 3, none⟩ (.slice A8 n8 c8)).heap[bo]? = some (.cells #[.int .i64 st, .int .i64 ini, .slice A2 n2 c2, .slice A8 n8 c8] 27 (0, 0))) := heap_setCell_same w8 bo 3 _ _ (.slice A8 n8 c8) hbo8;have hne8 : ∀ q, (Value.slice A8 n8 c8).ownBlock = some q → q ≠ bo := fun q e => by
    rcases hr8 with h | ⟨q2, h, hq2⟩
    ·exact hne2.out q (h.symm.trans e)
    ·rw [h] at e
     injection e with e;omega
   have hO9 := hide (hO8.keep (w' := w8.setCell ⟨bo, 3, none⟩ (.slice A8 n8 c8)) fun q e => Below.heap_setCell _ _ _ _ (hne8 q e));have hM9 := hide (hM.out.put hx.out hi hP8);have hb9 := hide ((hbF.out.trans hb8).setCell (p := ⟨bo, 3, none⟩) (Nat.le_of_lt hbow) (.slice A8 n8 c8));replace hne8 := hide hne8;replace hbo8 := hide hbo8;clear qp hO8 hP8 hb8 hG8 hr8 hx;go_wp2_with fail;go_roundw
   case rel => exact ⟨k + 1, A8, n8, c8, es8, by omega, by go_num, hbo9.out, hO9.out, hM9.out, hne8.out, hb9.out⟩
   case measure => simp [intOf]; omega
  ·obtain rfl : k = m := by omega
   have k1 : ¬ (k : Int) < (k : Int) := by omega
   have hMf : Hid (MadeE ts es es1) := by
    have := hM.out;rw [List.take_of_length_le (by rw [hlen.out]; exact zR)] at this;exact this
   have h8 : wr.heap[w.heap.size]? = _ := (hb1.out.block w.heap.size hz1).trans k8.out;have a0 : wr.cell? ⟨w.heap.size, 0, none⟩ = some (.int .i64 0) := (cell_of_row _ _ 0 _ _ (0, 0) h8).trans rfl;have a1 : wr.cell? ⟨w.heap.size, 1, none⟩ = some (.int .i64 0) := (cell_of_row _ _ 1 _ _ (0, 0) h8).trans rfl;have a2 : wr.cell? ⟨w.heap.size, 2, none⟩ = some (.slice none 0 0) := (cell_of_row _ _ 2 _ _ (0, 0) h8).trans rfl;have a3 : wr.cell? ⟨w.heap.size, 3, none⟩ = some (.slice none 0 0) := (cell_of_row _ _ 3 _ _ (0, 0) h8).trans rfl;have z0 : wr.frozen? ⟨w.heap.size, 0, none⟩ = false := frozen_of_row _ _ 0 _ _ h8;have z1 : wr.frozen? ⟨w.heap.size, 1, none⟩ = false := frozen_of_row _ _ 1 _ _ h8;have z2 : wr.frozen? ⟨w.heap.size, 2, none⟩ = false := frozen_of_row _ _ 2 _ _ h8;have z3 : wr.frozen? ⟨w.heap.size, 3, none⟩ = false := frozen_of_row _ _ 3 _ _ h8;have b0 : wr.cell? ⟨bo, 0, none⟩ = some (.int .i64 st) := (cell_of_row _ _ 0 _ _ (0, 0) hbo.out).trans rfl;have b1 : wr.cell? ⟨bo, 1, none⟩ = some (.int .i64 ini) := (cell_of_row _ _ 1 _ _ (0, 0) hbo.out).trans rfl;have b2 : wr.cell? ⟨bo, 2, none⟩ = some (.slice A2 n2 c2) := (cell_of_row _ _ 2 _ _ (0, 0) hbo.out).trans rfl;have b3 : wr.cell? ⟨bo, 3, none⟩ = some (.slice E mm cc) := (cell_of_row _ _ 3 _ _ (0, 0) hbo.out).trans rfl;have hJr := hide (hJs.out.below hb.out (.inl zR));have hOr := hide (hO.out.sl flat_ev);replace h8 := hide h8;clear hM;go_wp2_with fail
   (try simp only [Exit.inBlock, Exit.then])
   refine bodyPost_ret_by (v := .agg #[.int .i64 st, .int .i64 ini, .slice A2 n2 c2, .slice E mm cc]) ?_ rfl ?_
   focus
    rw [results_cell1 rfl];go_simp
   obtain ⟨wZ, hwZ⟩ : ∃ wZ, wZ = ((((wr.setCell ⟨w.heap.size, 0, none⟩ (.int .i64 st)).setCell ⟨w.heap.size, 1, none⟩ (.int .i64 ini)).setCell ⟨w.heap.size, 2, none⟩ (.slice A2 n2 c2)).setCell ⟨w.heap.size, 3, none⟩ (.slice E mm cc)) := ⟨_, rfl⟩;have hZ : ∀ q, q ≠ w.heap.size → wZ.heap[q]? = wr.heap[q]? := fun q hq => by
    rw [hwZ, Below.heap_setCell _ _ _ _ hq, Below.heap_setCell _ _ _ _ hq, Below.heap_setCell _ _ _ _ hq, Below.heap_setCell _ _ _ _ hq]
   have hZs : wZ.heap.size = wr.heap.size := by rw [hwZ]; simp
   have hZb : Below w.heap.size w wZ := by
    rw [hwZ];exact (((hbw.out.setCell (p := ⟨w.heap.size, 0, none⟩) zR _).setCell (p := ⟨w.heap.size, 1, none⟩) zR _).setCell (p := ⟨w.heap.size, 2, none⟩) zR _).setCell (p := ⟨w.heap.size, 3, none⟩) zR _
   rw [← hwZ];have hbs := hb.out.size;have h1 : SlS wZ w.heap.size wZ.heap.size A2 n2 (joiF ts) := (Sl.keep hJr.out (by omega) fun q h1 h2 h3 => hZ q (by omega)).more (by omega) (by omega);have h2 : SlE wZ w.heap.size wZ.heap.size E mm es1 := (Sl.keep hOr.out (by omega) fun q h1 h2 h3 => hZ q (by omega)).more (by omega) (by omega);exact ⟨_, _, _, _, _, ⟨_, rfl⟩, h1, _, h2, hMf.out, hZb, hjc.out⟩
theorem l15DrawOkC_calls (b N : Nat) (w : World) (h : SrcW w b N) (hN : N ≤ 600000000) :
  Calls Tryz.prog 49 #[.pointer (some ⟨b, 0, none⟩)] w (fun e w' => DrawnG 7 64 2000 b N w e w' ∧ CapE e) := by
 have hEe := hide elem_edge;have hbl := h.lt;have hon0 := (Only.refl b (b + 1) w).alloc' (.cells #[.int .i64 0, .int .i64 0, .slice none 0 0, .slice none 0 0] 27);have k8 := heap_alloc_new w (.cells #[.int .i64 0, .int .i64 0, .slice none 0 0, .slice none 0 0] 27);have hS0 := h.alloc (.cells #[.int .i64 0, .int .i64 0, .slice none 0 0, .slice none 0 0] 27);have hz0 : w.heap.size < (w.alloc (.cells #[.int .i64 0, .int .i64 0, .slice none 0 0, .slice none 0 0] 27)).heap.size := by simp
 obtain ⟨wA, hwA⟩ : ∃ wA, wA = w.alloc (.cells #[.int .i64 0, .int .i64 0, .slice none 0 0, .slice none 0 0] 27) := ⟨_, rfl⟩;rw [← hwA] at hon0 k8 hS0 hz0;have q1 := hide (l11DrawOk_calls b N wA hS0 (by omega));replace hon0 := hide hon0;replace k8 := hide k8;clear h hS0;go_enter Tryz.func49, Tryz.ntmps49;go_upto_region 1 with fail;rw [← hwA];replace hwA := hide hwA;go_wp2_with fail;refine q1.out.mono ?_;rintro e w1 ⟨st, ini, A, n, c, B, m, d, ts, es, rfl, hA1, hB1, hv, hst7, hm60, hn6, hD, hs1, hon1⟩;obtain ⟨hed, hst40, hini⟩ := ltsV_edge hv;have hlA := hA1.len;have hlB := hB1.len;rw [hlA] at hed;have hnpos : 0 < n := by have := (List.getElem?_eq_some_iff.1 (joi_head ts)).1; omega
 replace hed := hide hed;have hbl1 : b < w1.heap.size := hs1.lt;have hbw1 := (Below.refl w1.heap.size w1).alloc zR (.cells #[.int .i64 (st : Int), .int .i64 (ini : Int), .slice A n c, .slice B m d] 27);have hbox := heap_alloc_new w1 (.cells #[.int .i64 (st : Int), .int .i64 (ini : Int), .slice A n c, .slice B m d] 27);have hz2 : w1.heap.size + 1 = (w1.alloc (.cells #[.int .i64 (st : Int), .int .i64 (ini : Int), .slice A n c, .slice B m d] 27)).heap.size := by simp
 obtain ⟨w2, hw2⟩ : ∃ w2, w2 = w1.alloc (.cells #[.int .i64 (st : Int), .int .i64 (ini : Int), .slice A n c, .slice B m d] 27) := ⟨_, rfl⟩;rw [← hw2] at hbw1 hbox hz2;have hz12 : w1.heap.size < w2.heap.size := by omega
 have hbox2 : Hid (LtsBox w2 w1.heap.size (st : Int) (ini : Int) A n c B m d) := hbox;have hA2 := hide (hA1.below hbw1 (.inl zR));have hB2 := hide (hB1.below hbw1 (.inl zR));have hs2 := hs1.below hbw1 hbl1;have hon2 := hide (hon1.belowAt hbw1 hon1.size);have hE0 : Hid (Own 3 ev (w2.alloc (.cells #[] 84)) w2.heap.size 84 (some ⟨w2.heap.size, 0, none⟩) 0 0 ([] : List Ed)) := Own.made (α := Ed) (size := 3) (f := ev) w2 84 zR;have hs3 := hide (hs2.alloc (.cells #[] 84));have hon3 := hide ((Only.refl b (b + 1) w2).alloc' (.cells #[] 84));have hbl2 : b < w2.heap.size := by omega
 have hz1 : wA.heap.size ≤ w1.heap.size := hon1.size;replace hz2 := hide hz2;replace hv := hide hv;replace hD := hide hD;obtain ⟨hst1, -⟩ := hst40;obtain ⟨hini0, hini1⟩ := hini;clear q1 hA1 hB1 hs1 hs2 hon1 hbox hbw1;go_upto_region 2 with fail;rw [← hw2];replace hw2 := hide hw2;go_wp2_with fail
 go_loopw [4, 5] (fun v4 v5 wr => ∃ (k cc : Nat) (E : Option Addr) (es1 : List Ed), k ≤ m ∧ v5 = .int .i64 (k : Nat) ∧ v4 = .slice E k cc ∧ Hid (Own 3 ev wr w2.heap.size 84 E k cc es1) ∧ Hid (EdD st n es1) ∧ Hid (SrcW wr b (N + 1000 + 2 * k)) ∧ Hid (Only b (b + 1) w2 wr)) (fun _ v _ => m - (intOf v).toNat)
 case atStart => exact ⟨0, 0, _, [], Nat.zero_le _, rfl, rfl, hE0.out, EdD.start _ _, hs3.out, hon3.out⟩
 case round =>
  clear hE0 hs3 hon3;obtain ⟨k, cc, E, es1, hk, rfl, rfl, hO, hEd, hS, hon⟩ := hrel;have hbox := hide (hbox2.out.only hon.out (.inr (by omega)));have hzr := hon.out.size
  by_cases hlt : k < m
  ·have k0 : (0 : Int) ≤ (k : Int) := by omega
   have k1 : (k : Int) < (m : Int) := by omega
   obtain ⟨gb, ob, f, lb, t, rfl, -, -, hgb, hx, x0, x1, x2, -⟩ := SlE.get (hB2.out.only hon.out (.inr (by omega))) hlt;have hin := hed.out _ (List.mem_of_getElem? hx)
   (try dsimp only at hin)
   have b3 := hbox.out.c3;have hbx := heap_alloc_new wr (.cells #[.int .i64 f, .int .i64 lb, .int .i64 t] 84);have hOE := hO.out.alloc (.cells #[.int .i64 f, .int .i64 lb, .int .i64 t] 84);have hSE := hS.out.alloc (.cells #[.int .i64 f, .int .i64 lb, .int .i64 t] 84);have honE := (Only.refl b (b + 1) wr).alloc' (.cells #[.int .i64 f, .int .i64 lb, .int .i64 t] 84);obtain ⟨wE, hwE⟩ : ∃ wE, wE = wr.alloc (.cells #[.int .i64 f, .int .i64 lb, .int .i64 t] 84) := ⟨_, rfl⟩;rw [← hwE] at hbx hOE hSE honE;obtain ⟨be, hbe⟩ : ∃ be, be = wr.heap.size := ⟨_, rfl⟩;rw [← hbe] at hbx;obtain ⟨wO, hwO⟩ : ∃ wO : World, wO = wr := ⟨_, rfl⟩;have hbel : be < wE.heap.size := (Array.getElem?_eq_some_iff.1 hbx).1;have q2 := hide (one_calls b _ 3 wE hSE (by omega));replace hbx := hide hbx;replace hOE := hide hOE;replace honE := hide honE;clear hx hSE;go_upto_region 7 with fail;rw [← hwE, ← hbe];replace hwE := hide hwE;have hbe2 : w2.heap.size ≤ be := by rw [hbe]; exact hzr
   have hber : wr.heap.size ≤ be := Nat.le_of_eq hbe.symm;replace hbe := hide hbe;clear x0 x1 x2 b3 hwO;go_upto_if 24 with (first | (go_at_call 92; (with_reducible refine q2.out.mono ?_); rintro e w5 ⟨yes, rfl, hs5⟩; replace hs5 := hide hs5))
   go_cut [] (fun wx => ∃ lb2 : Int, Hid (0 ≤ lb2 ∧ lb2 < (n : Int)) ∧ Hid (wx.heap[be]? = some (.cells #[.int .i64 f, .int .i64 lb2, .int .i64 t] 84 (0, 0))) ∧ Hid (Own 3 ev wx w2.heap.size 84 E k cc es1) ∧ Hid (SrcW wx b (N + 1000 + 2 * k + 2)) ∧ Hid (Only b (b + 1) wr wx))
   case first =>
    have hb5 : w5.heap[be]? = _ := (hs5.out.only.block be hbel (by omega)).trans hbx.out;have hO5 := hide (hOE.out.keep (w' := w5) fun g e => hs5.out.only.block g (hOE.out.lt g e).2 (by have := (hOE.out.lt g e).1; omega));have hon5 := hide (honE.out.trans' hs5.out.only)
    cases yes with
    | false =>
     go_wp2_with fail;go_meet
     exact ⟨lb, hin.2.1, hb5, hO5.out, hs5.out.src, hon5.out⟩
    | true =>
     have y1 : w5.cell? ⟨be, 1, none⟩ = some (.int .i64 lb) := (cell_of_row _ _ 1 _ _ (0, 0) hb5).trans rfl;have z1 : w5.frozen? ⟨be, 1, none⟩ = false := frozen_of_row _ _ 1 _ _ hb5;have hb6 : Hid ((w5.setCell ⟨be, 1, none⟩ (.int .i64 0)).heap[be]? = some (.cells #[.int .i64 f, .int .i64 0, .int .i64 t] 84 (0, 0))) := heap_setCell_same w5 be 1 _ _ (.int .i64 0) hb5;have hO6 := hide (hO5.out.keep (w' := w5.setCell ⟨be, 1, none⟩ (.int .i64 0)) fun g e => Below.heap_setCell _ _ _ _ (by
      have := (hO.out.lt g e).2
      show g ≠ be
      omega))
     have hS6 := hide (hs5.out.src.setNew (p := ⟨be, 1, none⟩) (by show b < be; omega) (.int .i64 0));have hon6 := hide (hon5.out.setNew (p := ⟨be, 1, none⟩) hber (.int .i64 0));replace hb5 := hide hb5;go_wp2_with fail;go_meet;exact ⟨0, by show _ ∧ _; omega, hb6.out, hO6.out, hS6.out, hon6.out⟩
   case rest =>
    clear hOE honE q2 hO hS hbx;obtain ⟨lb2, hlb2, hbx, hO, hS, honC⟩ := hcut;have hon6 := hide (hon.out.trans' honC.out);have y0 : wc.cell? ⟨be, 0, none⟩ = some (.int .i64 f) := (cell_of_row _ _ 0 _ _ (0, 0) hbx.out).trans rfl;have y1 : wc.cell? ⟨be, 1, none⟩ = some (.int .i64 lb2) := (cell_of_row _ _ 1 _ _ (0, 0) hbx.out).trans rfl;have y2 : wc.cell? ⟨be, 2, none⟩ = some (.int .i64 t) := (cell_of_row _ _ 2 _ _ (0, 0) hbx.out).trans rfl;have hz6 := hon6.out.size;have hza : w2.heap.size ≤ (wc.alloc (.cells #[.int .i64 f, .int .i64 lb2, .int .i64 t] 84)).heap.size := by rw [World.size_alloc]; omega
    have hOa := hide (hO.out.alloc (.cells #[.int .i64 f, .int .i64 lb2, .int .i64 t] 84));have hSa := hide (hS.out.alloc (.cells #[.int .i64 f, .int .i64 lb2, .int .i64 t] 84));have hona := hide (hon6.out.alloc' (.cells #[.int .i64 f, .int .i64 lb2, .int .i64 t] 84));have hrow := hide (fun q (e : (Value.slice E k cc).ownBlock = some q) => (hOa.out.lt q e).1);have hEd2 := hide (hEd.out.app (f := f) (l := lb2) (t := t) hin.1 hlb2.out hin.2.2);clear hO hS hon honC hon6 hEd hz6;go_wp2_with (first | (at_builtin; (with_reducible refine wpList_app rfl (.tmp 26) (.tmp 28) rfl hEe.out flat_ev rfl hOa.out rfl (Sl.lit1' wc 84 (f, lb2, t) _ rfl 3 _ ?d0) ?d1 hza ?_); rotate_right; intro A6 c6 w6 hown6 hgr6 hb6 hat6))
    case d0 => rfl
    case d1 => omega
    have hS6 := hide ((hSa.out.grow hgr6 (fun q e => by have := hrow.out q e; omega)).more (show N + 1000 + 2 * k + 2 ≤ N + 1000 + 2 * (k + 1) by omega));have hon6 := hide (hona.out.grow hgr6 (fun q e => hrow.out q e));replace hown6 := hide hown6;clear hgr6 hb6 hat6 hOa hSa hona hrow y0 y1 y2;go_wp2_with fail;go_roundw
    case rel => exact ⟨k + 1, c6, A6, _, by omega, by go_num, rfl, hown6.out, hEd2.out, hS6.out, hon6.out⟩
    case measure => simp [intOf]; omega
  ·obtain rfl : k = m := by omega
   have k1 : ¬ (k : Int) < (k : Int) := by omega
   obtain ⟨wL, rfl⟩ : ∃ wL : World, wL = wr := ⟨_, rfl⟩;have b3 := hbox.out.c3;have q3 := hide (pick_calls b _ 3 wL hS.out (by omega));go_wp2_with fail;refine q3.out.mono ?_;rintro e w5 ⟨r0, rfl, r00, r01, hs5⟩;obtain ⟨r, rfl⟩ : ∃ r : Nat, r0 = (r : Int) := ⟨r0.toNat, by omega⟩;have hr2 : r ≤ 2 := by omega
   have hO5 := hide (hO.out.keep (w' := w5) fun g e => hs5.only.block g (hO.out.lt g e).2 (by have := (hO.out.lt g e).1; omega));have hon5 := hide (hon.out.trans' hs5.only);have hS5 := hide (hs5.src.more (show N + 1000 + 2 * k + 2 ≤ N + 1200 + 10 * (2 - r) by omega));clear q3 hs5 hO hon hS r00 r01 b3 hbox;go_wp2_with fail
   go_loopw [4, 7] (fun v4 v7 wr => ∃ (r mm cc : Nat) (E : Option Addr) (es1 : List Ed), r ≤ 2 ∧ v7 = .int .i64 (r : Nat) ∧ v4 = .slice E mm cc ∧ mm ≤ 62 - r ∧ Hid (Own 3 ev wr w2.heap.size 84 E mm cc es1) ∧ Hid (EdD st n es1) ∧ Hid (SrcW wr b (N + 1200 + 10 * (2 - r))) ∧ Hid (Only b (b + 1) w2 wr)) (fun _ v _ => (intOf v).toNat)
   case atStart => exact ⟨r, k, _, _, _, hr2, rfl, rfl, by omega, hO5.out, hEd.out, hS5.out, hon5.out⟩
   case round =>
    clear hO5 hon5 hS5 hEd hr2;obtain ⟨r, mm, cc, E, es1, hr, rfl, rfl, hmm, hO, hEd, hS, hon⟩ := hrel;have hbox := hide (hbox2.out.only hon.out (.inr (by omega)));have hzr := hon.out.size
    by_cases hpos : 0 < r
    ·have p1 : (0 : Int) < (r : Int) := by omega
     obtain ⟨NN, hNN⟩ : ∃ NN, N + 1200 + 10 * (2 - r) = NN := ⟨_, rfl⟩;rw [hNN] at hS;have hNNb : NN ≤ N + 2000 := by omega
     replace hNN := hide hNN;have q1 := hide (pick_calls b NN (st : Int) wr.drew hS.out.drew (by omega));go_upto_region 13 with fail
     focus
      refine lateT_begin (S := fun w' => w'.cell? ⟨w1.heap.size, 0, none⟩ = some (.int .i64 (st : Int))) (st := 12) (by kernel_rfl) ?_;have hS0 : (fun w' : World => w'.cell? ⟨w1.heap.size, 0, none⟩ = some (.int .i64 (st : Int))) wr.drew := hbox.out.c0;refine tkB 0 [12] hS0 ?_;refine tkB 1 [12] hS0 ?_;refine tkB 2 [12] hS0 ?_;refine tkB 3 [12] hS0 ?_;refine tkB 5 [12] hS0 ?_;refine tkB 6 [12] hS0 ?_;refine tkB 7 [12] hS0 ?_;refine lS 4 fun K hK => ?_
      go_simp;go_at_call 84
      refine q1.out.mono ?_;rintro e w5 ⟨f, rfl, f0, f1, h5⟩;have hb5 := hide (hbox.out.only (w := wr.drew) h5.only (.inr (by omega)));have k5 := hb5.out.c0;have q2 := hide (pick_calls b _ (st : Int) w5 h5.src (by omega));replace h5 := hide h5;clear q1;go_wp2_with fail;refine kP hK (fun _ => k5) ?_;clear hK K;refine lS 8 fun K hK => ?_
      go_simp;go_at_call 84
      refine q2.out.mono ?_;rintro e w6 ⟨tg, rfl, t0, t1, h6⟩;have hb6 := hide (hb5.out.only h6.only (.inr (by omega)));have k6 := hb6.out.c0;replace h6 := hide (h5.out.trans h6);have hO6 := hide (hO.out.keep (w' := w6) fun g e => h6.out.only.block (w := wr.drew) g (hO.out.lt g e).2 (by have := (hO.out.lt g e).1; omega));have hon6 := hide (hon.out.drew'.trans' h6.out.only);have hz6 := hon6.out.size;have hza : w2.heap.size ≤ (w6.alloc (.cells #[.int .i64 f, .int .i64 0, .int .i64 tg] 84)).heap.size := by rw [World.size_alloc]; omega
      have hOa := hide (hO6.out.alloc (.cells #[.int .i64 f, .int .i64 0, .int .i64 tg] 84));have hSa := hide (h6.out.src.alloc (.cells #[.int .i64 f, .int .i64 0, .int .i64 tg] 84));have hona := hide (hon6.out.alloc' (.cells #[.int .i64 f, .int .i64 0, .int .i64 tg] 84));have hbxa := hide (hb6.out.below ((Below.refl w6.heap.size w6).alloc zR (.cells #[.int .i64 f, .int .i64 0, .int .i64 tg] 84)) hb6.out.lt);have ka := hbxa.out.c0;have hrow := hide (fun q (e : (Value.slice E mm cc).ownBlock = some q) => (hOa.out.lt q e).1);have hEd2 := hide (hEd.out.app (f := f) (l := 0) (t := tg) (by omega) (by omega) (by omega));have hlit := hide (Sl.lit1' (f := ev) w6 84 (f, (0 : Int), tg) #[.int .i64 f, .int .i64 0, .int .i64 tg] rfl 3 _ rfl);have hsz : (mm + 1) * 24 ≤ 140737488355328 := by omega
      clear q2 h5 hO hon hS hEd;go_wp2_with fail;refine kP hK (fun _ => k6) ?_;clear hK K;refine lS 9 fun K hK => ?_
      go_simp;refine kP hK (fun _ => k6) ?_
      clear hK K;refine lS 10 fun K hK => ?_
      go_simp;refine kP hK (fun _ => ka) ?_
      clear hK K;refine lS 11 fun K hK => ?_
      refine step_appL (m := 1) (d := 1) (by rfl) (.tmp 36) (.tmp 46) (by rfl) hEe.out flat_ev (by go_simp) hOa.out (by go_simp) hlit.out hsz hza ?_;intro A6 c6 w7 hown7 hgr7 hb7 hat7;have hS7 := hide (hSa.out.grow hgr7 (fun q e => by have := hrow.out q e; omega));have hon7 := hide (hona.out.grow hgr7 (fun q e => hrow.out q e));have hbx7 := hide (hbxa.out.below hb7 (by omega));have k7 := hbx7.out.c0;replace hown7 := hide hown7;clear hgr7 hb7 hat7;refine kP hK (fun _ => k7) ?_;clear hK K;refine lS 12 fun K hK => ?_
      go_simp;refine kP hK nH ?_
      clear hK K;refine lateT_done (by kernel_rfl) ?_ _;obtain ⟨r2, rfl⟩ : ∃ r2, r = r2 + 1 := ⟨r - 1, by omega⟩;have hS8 := hide (hS7.out.more (show NN + 2 + 2 ≤ N + 1200 + 10 * (2 - r2) by have := hNN.out; omega));go_wp2_with fail;go_roundw
      case rel => exact ⟨r2, mm + 1, c6, A6, _, by omega, by go_num, rfl, by omega, hown7.out, hEd2.out, hS8.out, hon7.out⟩
      case measure => simp [intOf]
    ·obtain rfl : r = 0 := by omega
     have p1 : ¬ (0 : Int) < ((0 : Nat) : Int) := by omega
     have c0 := hbox.out.c0;have c1 := hbox.out.c1;have c2 := hbox.out.c2;have hmmL := hO.out.len;have r2 := hide (l11MakeC_calls (st : Int) (ini : Int) A n c (joiF ts) E mm cc es1 wr ((hA2.out.only hon.out (.inr (by omega))).more (Nat.zero_le _) (by omega)) ((hO.out.sl flat_ev).more (Nat.zero_le _) zR) (fun e he => (hEd.out e he).2.1) (by omega) (by omega));go_wp2_with fail;refine r2.out.mono ?_;rintro e w7 ⟨A3, n3, c3, B3, m3, d3, es3, rfl, hA3, hB3, hM, hb7, hc3⟩;have hF := hide ((hon2.out.trans' hon.out).belowAt hb7 (by omega));have h8 : w7.heap[w.heap.size]? = _ := (hF.out.block w.heap.size hz0 (by omega)).trans k8.out;have a0 : w7.cell? ⟨w.heap.size, 0, none⟩ = some (.int .i64 0) := (cell_of_row _ _ 0 _ _ (0, 0) h8).trans rfl;have a1 : w7.cell? ⟨w.heap.size, 1, none⟩ = some (.int .i64 0) := (cell_of_row _ _ 1 _ _ (0, 0) h8).trans rfl;have a2 : w7.cell? ⟨w.heap.size, 2, none⟩ = some (.slice none 0 0) := (cell_of_row _ _ 2 _ _ (0, 0) h8).trans rfl;have a3 : w7.cell? ⟨w.heap.size, 3, none⟩ = some (.slice none 0 0) := (cell_of_row _ _ 3 _ _ (0, 0) h8).trans rfl;have z0 : w7.frozen? ⟨w.heap.size, 0, none⟩ = false := frozen_of_row _ _ 0 _ _ h8;have z1 : w7.frozen? ⟨w.heap.size, 1, none⟩ = false := frozen_of_row _ _ 1 _ _ h8;have z2 : w7.frozen? ⟨w.heap.size, 2, none⟩ = false := frozen_of_row _ _ 2 _ _ h8;have z3 : w7.frozen? ⟨w.heap.size, 3, none⟩ = false := frozen_of_row _ _ 3 _ _ h8;have hS7 := hide (hS.out.below hb7 (by omega));have hz7 := hb7.size;have hlA3 := hA3.len;have hlj := joi_len (joiF ts);replace hA3 := hide hA3;replace hB3 := hide hB3;replace hM := hide hM;replace h8 := hide h8;clear r2 hb7 c0 c1 c2 hbox;go_wp2_with fail
     (try simp only [Exit.inBlock, Exit.then])
     refine bodyPost_ret_by (v := .agg #[.int .i64 (st : Int), .int .i64 (ini : Int), .slice A3 n3 c3, .slice B3 m3 d3]) ?_ rfl ?_
     focus
      rw [results_cell1 rfl];go_simp
     refine ⟨?_, CapE.of hc3⟩
     change DrawnG 7 64 2000 b N w _ (put4 w7 w.heap.size _ _ _ _)
     have hZs := put4_size w7 w.heap.size (.int .i64 (st : Int)) (.int .i64 (ini : Int)) (.slice A3 n3 c3) (.slice B3 m3 d3);have hnam : NamD (joiF ts) := fun x hx => ((joi_mem_iff ts x).1 hx).elim .inl (hD.out x)
     have hlab : ∀ x, x ∈ joiF ts → x = tauB ∨ labS x = true := fun x hx => (hnam x hx).imp id fun h => (nm5_lab x h).1
     have hmade : ltsV ((st : Int), (ini : Int), joiF (joiF ts), es3) = true := made_valid (by omega) (by omega) hlab (by omega) (by omega) (fun e he => ⟨(hEd.out e he).1, (hEd.out e he).2.2⟩) hM.out;refine ⟨st, ini, A3, n3, c3, B3, m3, d3, joiF ts, es3, rfl, ?_, ?_, hmade, by omega, by have := hM.out.2.1; omega, by omega, hnam, ?_, ?_⟩
     ·exact (Sl.keep hA3.out (by omega) fun q h1 h2 h3 => put4_other _ _ _ _ _ _ (by omega)).more (by omega) (by omega)
     ·exact (Sl.keep hB3.out (by omega) fun q h1 h2 h3 => put4_other _ _ _ _ _ _ (by omega)).more (by omega) (by omega)
     ·exact (hS7.out.keep (by omega) fun q hq => put4_other _ _ _ _ _ _ (by omega)).more (by omega)
     ·exact put4_only (hon0.out.trans' hF.out) zR _ _ _ _
theorem R8LtsC_calls (A : Option Addr) (n c : Nat) (code : List Int) (w : World) (h : SlU w 0 w.heap.size A n code) (hc : ∀ x, x ∈ code → 0 ≤ x ∧ x ≤ 255) (hn : n ≤ maxLen) :
  Calls Tryz.prog 11 #[.slice A n c] w (fun e w' => SysD w e w' ∧ CapE e) := by
 have hb1 := (Below.refl w.heap.size w).alloc zR (.cells #[.int .i64 0, .int .i64 0, .slice none 0 0, .slice none 0 0] 27);have k8 := heap_alloc_new w (.cells #[.int .i64 0, .int .i64 0, .slice none 0 0, .slice none 0 0] 27);have hz1 : w.heap.size < (w.alloc (.cells #[.int .i64 0, .int .i64 0, .slice none 0 0, .slice none 0 0] 27)).heap.size := by simp
 obtain ⟨w1, hw1⟩ : ∃ w1, w1 = w.alloc (.cells #[.int .i64 0, .int .i64 0, .slice none 0 0, .slice none 0 0] 27) := ⟨_, rfl⟩;rw [← hw1] at hb1 k8 hz1;have q1 := hide (l00From_calls A n c code w1 ((h.below hb1 (.inl zR)).more zR hb1.size) hc hn);replace hb1 := hide hb1;replace k8 := hide k8;clear h hc;go_enter Tryz.func11, Tryz.ntmps11;go_upto_region 1 with fail;rw [← hw1];replace hw1 := hide hw1;go_wp2_with fail;refine q1.out.mono ?_;rintro e w2 ⟨rfl, hS, hb2, hz2⟩;have q2 := hide (l15DrawOkC_calls w1.heap.size 0 w2 hS (by omega));have hlt1 : w1.heap.size < w2.heap.size := hS.lt;replace hb2 := hide hb2;replace hz2 := hide hz2;clear q1 hS;go_wp2_with fail;refine q2.out.mono ?_;rintro e w3 ⟨hd, hce⟩;obtain ⟨st, ini, A2, n2, c2, B2, m2, d2, ls, es, rfl, hsys, h7, h64, hn7, hnam, -, hon, hA, hB⟩ := hd.sys (by omega);have hcap : n2 ≤ c2 := hce _ _ _ _ _ _ rfl;clear hce;have hb3 := hide (show Below w1.heap.size w1 w3 from ⟨hon.os.trans hb2.out.os, hon.tape.trans hb2.out.tape, hon.output.trans hb2.out.output, Nat.le_trans hb2.out.size hon.size, fun q hq => (hon.block q (by omega) (by omega)).trans (hb2.out.block q hq)⟩);have h8 : w3.heap[w.heap.size]? = _ := (hb3.out.block w.heap.size hz1).trans k8.out;have a0 : w3.cell? ⟨w.heap.size, 0, none⟩ = some (.int .i64 0) := (cell_of_row _ _ 0 _ _ (0, 0) h8).trans rfl;have a1 : w3.cell? ⟨w.heap.size, 1, none⟩ = some (.int .i64 0) := (cell_of_row _ _ 1 _ _ (0, 0) h8).trans rfl;have a2 : w3.cell? ⟨w.heap.size, 2, none⟩ = some (.slice none 0 0) := (cell_of_row _ _ 2 _ _ (0, 0) h8).trans rfl;have a3 : w3.cell? ⟨w.heap.size, 3, none⟩ = some (.slice none 0 0) := (cell_of_row _ _ 3 _ _ (0, 0) h8).trans rfl;have z0 : w3.frozen? ⟨w.heap.size, 0, none⟩ = false := frozen_of_row _ _ 0 _ _ h8;have z1 : w3.frozen? ⟨w.heap.size, 1, none⟩ = false := frozen_of_row _ _ 1 _ _ h8;have z2 : w3.frozen? ⟨w.heap.size, 2, none⟩ = false := frozen_of_row _ _ 2 _ _ h8;have z3 : w3.frozen? ⟨w.heap.size, 3, none⟩ = false := frozen_of_row _ _ 3 _ _ h8;replace h8 := hide h8;have hm64 : m2 ≤ 64 := by have := hsys.se.len; omega
 replace hA := hide hA;replace hB := hide hB;replace hsys := hide hsys;replace hd := hide hd;replace hnam := hide hnam;replace hon := hide hon;clear q2;go_wp2_with fail
 (try simp only [Exit.inBlock, Exit.then])
 refine bodyPost_ret_by (v := .agg #[.int .i64 (st : Int), .int .i64 (ini : Int), .slice A2 n2 c2, .slice B2 m2 d2]) ?_ rfl ?_
 focus
  rw [results_cell1 rfl];go_simp
 refine ⟨?_, CapE.of hcap⟩
 change SysD w _ (put4 w3 w.heap.size _ _ _ _)
 have hZs := put4_size w3 w.heap.size (.int .i64 (st : Int)) (.int .i64 (ini : Int)) (.slice A2 n2 c2) (.slice B2 m2 d2);have hz3 := hb3.out.size;have hz23 := hon.out.size;refine ⟨st, ini, A2, n2, c2, B2, m2, d2, ls, es, rfl, ⟨?_, ?_, hsys.out.ok, hsys.out.sz⟩, h7, hn7, hm64, hnam.out, ?_⟩
 ·exact (Sl.keep hA.out (by omega) fun q h1 h2 h3 => put4_other _ _ _ _ _ _ (by omega)).here'
 ·exact (Sl.keep hB.out (by omega) fun q h1 h2 h3 => put4_other _ _ _ _ _ _ (by omega)).here'
 ·have h1 := hb1.out.trans (hb3.out.mono (by omega))
  exact ⟨h1.os, h1.tape, h1.output, by omega, fun q hq => (put4_other _ _ _ _ _ _ (by omega)).trans (h1.block q hq)⟩
end Go.Proofs.YtnhomkmfbngmgaaGreatDoor
namespace Go.Proofs.YtnhomkmfbngmgaaGreatDoor
open Go.ChangeShapes Go.WideShapes Go.ChangeAt Go.RowKit
theorem r8Long_no (A B : Option Addr) (n m c d : Nat) (w : World) (hn : n ≤ 1048576) (hm : m ≤ 1048576) :
  Calls Tryz.prog 10 #[.slice A n c, .slice B m d] w fun e w' => e = .returned (.bool false) ∧ w = w' := by
 have h1 : ¬ (1048576 : Int) < (n : Int) := by omega
 have h2 : ¬ (1048576 : Int) < (m : Int) := by omega
 go_enter Tryz.func10, Tryz.ntmps10;go_wp2_with fail;go_ret;exact ⟨rfl, rfl⟩
theorem r8Long_yes (A B : Option Addr) (n m c d : Nat) (w : World) (h : 1048576 < n ∨ 1048576 < m) :
  Calls Tryz.prog 10 #[.slice A n c, .slice B m d] w fun e w' => e = .returned (.bool true) ∧ w = w' := by
 by_cases h1 : (1048576 : Int) < (n : Int)
 ·go_enter Tryz.func10, Tryz.ntmps10
  go_wp2_with fail;go_ret
  exact ⟨rfl, rfl⟩
 ·have h2 : (1048576 : Int) < (m : Int) := by omega
  go_enter Tryz.func10, Tryz.ntmps10;go_wp2_with fail;go_ret;exact ⟨rfl, rfl⟩
theorem r8Same_calls (A B : Option Addr) (n m c d : Nat) (l r : List Int) (w : World) (lo hi lo' hi' : Nat) (h : SlI w lo hi A n l) (g : SlI w lo' hi' B m r) (hn : n ≤ 1048576) (hm : m ≤ 1048576) :
  Calls Tryz.prog 18 #[.slice A n c, .slice B m d] w fun e w' => e = .returned (.bool (decide (l = r))) ∧ Below w.heap.size w w' := by
 have hl := hide h.len;have hr := hide g.len
 by_cases hnm : n = m
 ·subst hnm
  replace h := hide h;replace g := hide g;go_enter Tryz.func18, Tryz.ntmps18
  go_wp2
  go_loopw [5] (fun i wr => ∃ k : Nat, k ≤ n ∧ i = .int .i64 k ∧ Below w.heap.size w wr ∧ l.take k = r.take k) (fun i _ => n - (intOf i).toNat)
  case atStart => exact ⟨0, Nat.zero_le _, rfl, bR, rfl⟩
  case round =>
   obtain ⟨k, hk, rfl, hb, he⟩ := hrel;replace he := hide he
   by_cases hlt : k < n
   ·obtain ⟨b, off, x, rfl, g1, g2, g3, hx, c0, -⟩ := h.out.get hlt
    obtain ⟨b', off', y, rfl, g1', g2', g3', hy, d0, -⟩ := g.out.get hlt;replace c0 := (hb.cell (p := ⟨b, off + k, none⟩) g3).trans c0;replace d0 := (hb.cell (p := ⟨b', off' + k, none⟩) g3').trans d0;replace hx := hide hx;replace hy := hide hy;clear h g;have hk0 : (0 : Int) ≤ (k : Int) := by omega
    have hk1 : (k : Int) < (n : Int) := by omega
    by_cases hxy : x = y
    ·subst hxy
     have hq : (x != x) = false := by simp
     go_wp2
     go_quiet (fail)
     go_wp2
     go_roundw
     case rel => exact ⟨k + 1, by omega, by go_num, by first | exact hb | exact ⟨hb.os, hb.tape, hb.output, hb.size, hb.block⟩, take_step he.out hx.out hy.out rfl⟩
     case measure => simp [intOf]; omega
    ·have hne := hide (take_stop hx.out hy.out hxy)
     have hq : (x != y) = true := by rw [bne_iff_ne]; exact hxy
     go_wp2
     go_quiet (fail)
     go_wp2
     go_ret;exact ⟨by simp [hne.out], by first | exact hb | exact ⟨hb.os, hb.tape, hb.output, hb.size, hb.block⟩⟩
   ·have hkn : k = n := by omega
    subst hkn;clear h g
    go_wp2
    go_ret;exact ⟨by rw [take_all he.out hl.out hr.out]; simp, hb⟩
 ·have hne : Hid (l ≠ r) := fun e => hnm (by rw [← hl.out, ← hr.out, e])
  have hb0 : ((n : Int) != (m : Int)) = true := by rw [bne_iff_ne]; omega
  clear h g;go_enter Tryz.func18, Tryz.ntmps18
  go_wp2
  go_ret;exact ⟨by simp [hne.out], bR⟩
section
variable {w : World} {N ini : Nat} {A : Option Addr} {n : Nat} {B : Option Addr} {m : Nat} {ls : List ByteArray} {es : List Ed}
end
end Go.Proofs.YtnhomkmfbngmgaaGreatDoor
namespace Go.Proofs.YtnhomkmfbngmgaaGreatDoor
open Go.ChangeShapes Go.WideShapes Go.Deep Go.RowKit
theorem u8_wf {n : Int} (h : (Lit.int .u8 n).wf = true) : 0 ≤ n ∧ n ≤ 255 := by
 simp [Lit.wf, IntKind.min, IntKind.max, IntKind.signed, IntKind.bits] at h
 omega
section
variable {H : Type} {enc : TypeId × Value → H} {P : Program} {w : World} {base : Nat} {spare : Nat → Bool} {held : Bool}
theorem open_SlU {t e : TypeId} (ht : P.underlying t = some (.slice e)) (hC : P.cellsOf e = 1) (hi : P.underlying e = some (.int .u8)) {v : Value} {d : DataW H} {p : List MemPlace} (h : DataW.Trod enc P w base spare held t v d p)
  {n' c' : Nat} {A' : Option Addr} (hv : v = .slice A' n' c') (hz : ∀ b off, MemPlace.cell b off ∈ p → w.frozen? ⟨b, off, none⟩ = false) : ∃ A n c l, v = .slice A n c ∧ n ≤ maxLen ∧ SlU w base w.heap.size A n l ∧ ∀ x, x ∈ l → 0 ≤ x ∧ x ≤ 255 := by
 obtain ⟨fuel, hf⟩ := h;have key := open_flat (w := w) (base := base) (spare := spare) (held := held) (fun x : {n : Int // 0 ≤ n ∧ n ≤ 255} => byv x.1) ht hC (by omega) (fun fuel cs y hy hl => by
  obtain ⟨a, ea, _, hw⟩ := DataW.trod_int hi hy;exact ⟨⟨a, u8_wf hw⟩, ea⟩) hf hz
 obtain ⟨A, n, c, l, e1, e2, e3⟩ := key;subst hv
 simp [Value.cells] at e1
 refine ⟨A, n, c, l.map Subtype.val, by simp [e1], e2, ⟨by rw [List.length_map]; exact e3.1, fun hn => ?_⟩, fun x hx => ?_⟩
 ·obtain ⟨b, off, q1, q2, q3, q4, q5⟩ := e3.2 hn
  refine ⟨b, off, q1, q2, q3, q4, fun k x hx j u hu => ?_⟩;rw [List.getElem?_map] at hx
  cases hk : l[k]? with
  | none => rw [hk] at hx; cases hx
  | some y =>
   rw [hk] at hx
   cases hx
   exact q5 k y hk j u hu
 ·obtain ⟨y, -, rfl⟩ := List.mem_map.1 hx
  exact y.2
end
end Go.Proofs.YtnhomkmfbngmgaaGreatDoor
namespace Go.Proofs.YtnhomkmfbngmgaaGreatDoor.lawFnLts
open Go.ChangeShapes Go.WideShapes Go.ChangeAt Go.RowKit
set_option linter.unusedVariables false
set_option linter.unusedSimpArgs false
theorem walk (A B : Option Addr) (n m c d : Nat) (code more : List Int) (w : World) (he : Env w) (h1 : SlU w 0 w.heap.size A n code) (r1 : ∀ x, x ∈ code → 0 ≤ x ∧ x ≤ 255) (hn : n ≤ maxLen) (h2 : SlU w 0 w.heap.size B m more) (r2 : ∀ x, x ∈ more → 0 ≤ x ∧ x ≤ 255) (hm : m ≤ maxLen) :
  Calls Tryz.prog 3 #[.slice A n c, .slice B m d] w fun e w' => e = .returned (.bool true) ∧ Below w.heap.size w w' := by
 by_cases big : 1048576 < n ∨ 1048576 < m
 ·have q := hide (fun W => r8Long_yes A B n m c d W big)
  go_enter Tryz.func3, Tryz.ntmps3;go_wp2_with (first | (go_at_call 10; (with_reducible refine (q.out _).mono ?_); rintro e w' ⟨rfl, rfl⟩));go_ret;exact ⟨rfl, bR⟩
 have q0 := hide (fun W => r8Long_no A B n m c d W (by omega) (by omega));have q1 := hide (R8LtsC_calls A n c code w h1 r1 hn);replace he := hide he;clear h1 h2;go_enter Tryz.func3, Tryz.ntmps3;go_upto_region 3 with (first | (go_at_call 10; (with_reducible refine (q0.out _).mono ?_); rintro e w' ⟨rfl, rfl⟩));clear q0;go_wp2_with fail;refine q1.out.mono ?_;rintro e w1 ⟨⟨N, ini, A2, n2, c2, B2, m2, d2, ls, es, rfl, hsys, hN7, hn7, hm64, hnam, hb1⟩, hce⟩;have hcap : n2 ≤ c2 := hce _ _ _ _ _ _ rfl;clear hce;have he1 := he.out.below hb1 zR;have hB := hsys.box (c := c2) (d := d2);obtain ⟨w2, hw2⟩ : ∃ w2, w2 = w1.alloc (ltsC N ini A2 n2 c2 B2 m2 d2) := ⟨_, rfl⟩;rw [← hw2] at hB;have he2 := hide (he1.below hB.bel zR);obtain ⟨⟨hN1, hN40⟩, hini⟩ := hsys.bounds;obtain ⟨hm300, hn12, hn1, hle, hll⟩ := hsys.many;have hok := hide hsys.ok;have hsz := hide hsys.sz;have hed := hide hsys.edges;have hthr := hide hsys.three;have hbl2 := hide (hb1.trans (hB.bel.mono hb1.size));obtain ⟨bT, hbT⟩ : ∃ bT, bT = w1.heap.size := ⟨_, rfl⟩;have hX := hide (fun (w9 : World) (hb9 : Below w2.heap.size w2 w9) => (show LtsBox w9 bT (N : Int) (ini : Int) A2 n2 c2 B2 m2 d2 by rw [hbT]; exact (hB.below hb9).box));have hY := hide (fun (w9 : World) (hb9 : Below w2.heap.size w2 w9) => (hB.below hb9).sys);have q2 := hide (ltsText_calls (c := c2) (d := d2) hB.sys hcap he2.out);have x2 := hX.out w2 bR;have b0 := x2.c0;have b1 := x2.c1;have b2 := x2.c2;have b3 := x2.c3;replace hle := hide hle;replace hll := hide hll;replace hB := hide hB;replace hb1 := hide hb1;replace hnam := hide hnam;clear q1 hsys he1 x2;go_upto_region 4 with fail;rw [← show w2 = w1.alloc (.cells #[.int .i64 (N : Int), .int .i64 (ini : Int), .slice A2 n2 c2, .slice B2 m2 d2] 27) from hw2, ← hbT];replace hw2 := hide hw2;replace hbT := hide hbT;go_wp2_with fail;refine q2.out.mono ?_;rintro e w3 ⟨rfl, hb3⟩;have he3 := hide (he2.out.below hb3 zR);have q3 := hide (readLts_calls hN40 hini hnam.out hok.out hsz.out hll.out hle.out w3 he3.out);have hb3h := hide hb3;have hz23 := hb3.size;clear q2 b0 b1 b2 b3 hb3;go_wp2_with fail;refine q3.out.mono ?_;rintro e w4 ⟨A4, c4, B4, d4, rfl, hsK, hb4⟩;have hBK := hsK.box (c := c4) (d := d4);obtain ⟨w5, hw5⟩ : ∃ w5, w5 = w4.alloc (ltsC N ini A4 n2 c4 B4 m2 d4) := ⟨_, rfl⟩;rw [← hw5] at hBK;have hz34 := hb4.size;have hz45 := hBK.bel.size;have hb25 := hide (hb3h.out.trans ((hb4.trans (hBK.bel.mono hz34)).mono hz23));obtain ⟨bK, hbK⟩ : ∃ bK, bK = w4.heap.size := ⟨_, rfl⟩;have hXK := hide (fun (w9 : World) (hb9 : Below w5.heap.size w5 w9) => (show LtsBox w9 bK (N : Int) (ini : Int) A4 n2 c4 B4 m2 d4 by rw [hbK]; exact (hBK.below hb9).box));have hYK := hide (fun (w9 : World) (hb9 : Below w5.heap.size w5 w9) => (hBK.below hb9).sys);have he5 := hide (he2.out.below hb25.out zR);obtain ⟨R, hR⟩ : ∃ R, R = reachF N es (ini : Int) := ⟨_, rfl⟩;have hRn : R.Nodup := by rw [hR]; exact reach_nodup
 have q4 := hide (reachPart_calls (hY.out w5 hb25.out) c2 d2 he5.out R hR hRn);have x2 := hX.out w5 hb25.out;have b0 := x2.c0;have b1 := x2.c1;have b2 := x2.c2;have b3 := x2.c3;replace hBK := hide hBK;replace hb4 := hide hb4;replace hR := hide hR;replace hRn := hide hRn;clear q3 hsK x2;go_upto_region 5 with fail;rw [← show w5 = w4.alloc (.cells #[.int .i64 (N : Int), .int .i64 (ini : Int), .slice A4 n2 c4, .slice B4 m2 d4] 27) from hw5, ← hbK];replace hw5 := hide hw5;replace hbK := hide hbK;go_wp2_with fail;refine q4.out.mono ?_;rintro e w6 ⟨A6, c6, A7, n7, c7, q, AR, cR, rfl, hS6, hE6, hR6, hb6⟩;have hql : R.length = q := hR6.len;have hiR : (ini : Int) ∈ R := by rw [hR.out]; exact reach_ini hini
 have hq40 : R.length ≤ 40 := by
  rw [hR.out];unfold reachF;rw [List.length_map];have := List.length_filter_le (reachB es (ini : Int)) (List.range N);rw [List.length_range] at this;omega
 have hpv := part_valid hok.out hRn.out hq40 hiR;obtain ⟨iR, hiRe⟩ : ∃ iR : Nat, posZ R (ini : Int) = (iR : Int) := ⟨(posZ R (ini : Int)).toNat, by have := hpv.2; omega⟩;rw [hiRe, hql] at hpv;rw [hiRe];have hsP : SysA w6 q iR A6 n2 A7 n7 ls (partF R es) := ⟨hS6.here', hE6.here', hpv.1, hsz.out⟩;have hthrP := hide hsP.three;have hiq : iR < q := hsP.bounds.2;have hBP := hsP.box (c := c6) (d := c7);obtain ⟨w7, hw7⟩ : ∃ w7, w7 = w6.alloc (ltsC q iR A6 n2 c6 A7 n7 c7) := ⟨_, rfl⟩;rw [← hw7] at hBP;have hz56 := hb6.size;have hz67 := hBP.bel.size;have hb57 := hide (hb6.trans (hBP.bel.mono hz56));have hb27 := hide (hb25.out.trans (hb57.out.mono hb25.out.size));obtain ⟨bP, hbP⟩ : ∃ bP, bP = w6.heap.size := ⟨_, rfl⟩;have hXP := hide (fun (w9 : World) (hb9 : Below w7.heap.size w7 w9) => (show LtsBox w9 bP (q : Int) (iR : Int) A6 n2 c6 A7 n7 c7 by rw [hbP]; exact (hBP.below hb9).box));have hYP := hide (fun (w9 : World) (hb9 : Below w7.heap.size w7 w9) => (hBP.below hb9).sys);have hR7 := hide (fun (w9 : World) (hb9 : Below w7.heap.size w7 w9) => hR6.below (hBP.bel.trans (hb9.mono hz67)) (.inl zR));have he7 := hide (he2.out.below hb27.out zR);have q5 := reachStates_calls (hY.out w7 hb27.out) c2 d2 he7.out;rw [← hR.out] at q5;replace q5 := hide q5;have x2 := hX.out w7 hb27.out;clear q4 b0 b1 b2 b3;have b0 := x2.c0;have b1 := x2.c1;have b2 := x2.c2;have b3 := x2.c3;replace hql := hide hql;replace hiRe := hide hiRe;replace hBP := hide hBP;replace hb6 := hide hb6;replace hR6 := hide hR6;replace hS6 := hide hS6;replace hE6 := hide hE6;replace hpv := hide hpv;replace hsP := hide hsP;clear x2;go_upto_region 6 with fail;rw [← show w7 = w6.alloc (.cells #[.int .i64 (q : Int), .int .i64 (iR : Int), .slice A6 n2 c6, .slice A7 n7 c7] 27) from hw7, ← hbP];replace hw7 := hide hw7;replace hbP := hide hbP;go_wp2_with fail;refine q5.out.mono ?_;rintro e w8 ⟨q', AR2, cR2, rfl, hR8, hb8⟩;obtain rfl : q' = q := hR8.len.symm.trans hql.out;have hz78 := hb8.size;have hb28 := hide (hb27.out.trans (hb8.mono hb27.out.size));have hR8h := hide (fun (w9 : World) (hb9 : Below w8.heap.size w8 w9) => hR8.below hb9 (.inl zR));have he8 := hide (he2.out.below hb28.out zR);have q6 := hide (usedLts_calls (hY.out w8 hb28.out) c2 d2 he8.out);have x2 := hX.out w8 hb28.out;clear q5 b0 b1 b2 b3;have b0 := x2.c0;have b1 := x2.c1;have b2 := x2.c2;have b3 := x2.c3;have hb78 := hide hb8;replace hR8 := hide hR8;clear x2 hb8;go_upto_region 7 with fail;go_wp2_with fail;refine q6.out.mono ?_;rintro e w9 ⟨A9, n9, c9, A10, n10, c10, rfl, hS9, hE9, hb9⟩;have hlb := fun e he => (hthr.out e he).2.1
 have hsL : SysA w9 N ini A9 n9 A10 n10 (usdL ls es) (usdE ls es) := ⟨hS9.here', hE9.here', usd_valid hok.out (by have := hll.out; omega), by
  have h1 := nam_tot (usd_sz hlb hnam.out);have h2 := (ltsV_names (usd_valid hok.out (by have := hll.out; omega))).1;unfold namesB at h2;rw [Bool.and_eq_true] at h2;have h3 := inB_true.1 h2.1;unfold totS
  omega⟩
 have hthrL := hide hsL.three;have hmL := hide hsL.many;have hBL := hsL.box (c := c9) (d := c10);obtain ⟨wA, hwA⟩ : ∃ wA, wA = w9.alloc (ltsC N ini A9 n9 c9 A10 n10 c10) := ⟨_, rfl⟩;rw [← hwA] at hBL;have hz89 := hb9.size;have hz9A := hBL.bel.size;have hb8A := hide (hb9.trans (hBL.bel.mono hz89));have hb7A := hide (hb78.out.trans (hb8A.out.mono hz78));have hb5A := hide (hb57.out.trans (hb7A.out.mono hb57.out.size));have hb2A := hide (hb28.out.trans (hb8A.out.mono hb28.out.size));obtain ⟨bL, hbL⟩ : ∃ bL, bL = w9.heap.size := ⟨_, rfl⟩;have hXL := hide (fun (w9 : World) (hb9 : Below wA.heap.size wA w9) => (show LtsBox w9 bL (N : Int) (ini : Int) A9 n9 c9 A10 n10 c10 by rw [hbL]; exact (hBL.below hb9).box));have hYL := hide (fun (w9 : World) (hb9 : Below wA.heap.size wA w9) => (hBL.below hb9).sys);have heA := hide (he2.out.below hb2A.out zR);have q7 := hide (sameLts_calls (hYK.out wA hb5A.out) (hY.out wA hb2A.out) c4 d4 c2 d2);have x2 := hX.out wA hb2A.out;have xK := hXK.out wA hb5A.out;clear q6 b0 b1 b2 b3;have b0 := x2.c0;have b1 := x2.c1;have b2 := x2.c2;have b3 := x2.c3;have k0 := xK.c0;have k1 := xK.c1;have k2 := xK.c2;have k3 := xK.c3;replace hBL := hide hBL;replace hb9 := hide hb9;replace hS9 := hide hS9;replace hE9 := hide hE9;replace hsL := hide hsL;clear x2 xK hlb;go_upto_region 8 with fail;rw [← show wA = w9.alloc (.cells #[.int .i64 (N : Int), .int .i64 (ini : Int), .slice A9 n9 c9, .slice A10 n10 c10] 27) from hwA, ← hbL];replace hwA := hide hwA;replace hbL := hide hbL;go_wp2_with fail;refine q7.out.mono ?_;rintro e wB ⟨rfl, hbAB⟩;have hzAB := hbAB.size;have hbABh := hide hbAB;have q8 := r8Same_calls AR AR2 q' q' cR cR2 R R wB _ _ _ _ (hR7.out wB (hb7A.out.trans (hbAB.mono hb7A.out.size))) (hR8h.out wB (hb8A.out.trans (hbAB.mono hb8A.out.size))) (by have := hql.out; omega) (by have := hql.out; omega);rw [decide_eq_true rfl] at q8;replace q8 := hide q8;clear q7 b0 b1 b2 b3 k0 k1 k2 k3 hbAB;go_wp2_with fail;refine q8.out.mono ?_;rintro e wC ⟨rfl, hbBC⟩;have hbAC := hide (hbABh.out.trans (hbBC.mono hzAB));have hb2C := hide (hb2A.out.trans (hbAC.out.mono hb2A.out.size));have hb7C := hide (hb7A.out.trans (hbAC.out.mono hb7A.out.size));have xP := hXP.out wC hb7C.out;have x2 := hX.out wC hb2C.out;have p0 := xP.c0;have p1 := xP.c1;have p2 := xP.c2;have p3 := xP.c3;have b0 := x2.c0;have b1 := x2.c1;have b2 := x2.c2;have b3 := x2.c3;have hqq : ((q' : Int) != (q' : Int)) = false := by simp
 have q9 := hide (areBis_calls (hY.out wC hb2C.out) (hYP.out wC hb7C.out) c2 d2 c6 c7 (he2.out.below hb2C.out zR) (by have := hql.out; omega));clear q8 x2 xP hbBC;go_upto_region 10 with fail;go_wp2_with fail;refine q9.out.mono ?_;rintro e wD ⟨r, rfl, hL, hbCD⟩;have hyes : decide ((rndP (uniE ls es ls (partF R es) N) (N + q') r)[ini]? = (rndP (uniE ls es ls (partF R es) N) (N + q') r)[N + iR]?) = true :=
  decide_eq_true ((uni_alike (by have := hll.out; omega) (by have := hll.out; omega) hthr.out hthrP.out hL hini hiq).2 (rch_bis hed.out hR.out hRn.out hini hiRe.out))
 rw [hyes];have hbAD := hide (hbAC.out.trans (hbCD.mono hbAC.out.size));have hb2D := hide (hb2A.out.trans (hbAD.out.mono hb2A.out.size));have xL := hXL.out wD hbAD.out;have x2 := hX.out wD hb2D.out;have q10 := hide (areBis_calls (hY.out wD hb2D.out) (hYL.out wD hbAD.out) c2 d2 c9 c10 (he2.out.below hb2D.out zR) (by omega));clear q9 b0 b1 b2 b3 p0 p1 p2 p3 hyes hL hbCD;have b0 := x2.c0;have b1 := x2.c1;have b2 := x2.c2;have b3 := x2.c3;have p0 := xL.c0;have p1 := xL.c1;have p2 := xL.c2;have p3 := xL.c3;clear x2 xL;go_upto_region 11 with fail;go_wp2_with fail;refine q10.out.mono ?_;rintro e wE ⟨r2, rfl, hL2, hbDE⟩;have hyes : decide ((rndP (uniE ls es (usdL ls es) (usdE ls es) N) (N + N) r2)[ini]? = (rndP (uniE ls es (usdL ls es) (usdE ls es) N) (N + N) r2)[N + ini]?) = true :=
  decide_eq_true ((uni_alike (by have := hll.out; omega) (by have := hmL.out; omega) hthr.out hthrL.out hL2 hini hini).2 (usd_bis fun e he => (hthr.out e he).2.1))
 rw [hyes];have hbF := hide (hbl2.out.trans ((hb2D.out.trans (hbDE.mono hb2D.out.size)).mono hbl2.out.size));clear q10 hyes hL2 b0 b1 b2 b3 p0 p1 p2 p3 hbDE;go_wp2_with fail;go_ret;exact ⟨rfl, hbF.out⟩
end Go.Proofs.YtnhomkmfbngmgaaGreatDoor.lawFnLts
namespace Go.Proofs.YtnhomkmfbngmgaaGreatDoor
open Go.ChangeShapes Go.WideShapes Go.ChangeAt Go.RowKit Go.Deep
abbrev DM := DL × List Int
instance decDM : DecidableEq DM := inferInstanceAs (DecidableEq (DL × List Int))
def ArgM (w : World) (lo hi : Nat) (v : Value) (d : DM) : Prop := ∃ (x : CL) (v4 : Value), v = .agg #[.int .i64 x.1, .int .i64 x.2.1, x.2.2.1, x.2.2.2, v4] ∧ ReadL w lo hi x d.1 ∧ ArgI w lo hi v4 d.2
def totM (d : DM) : Nat := totL d.1 + d.2.length
def FreshM (w : World) (lo hi : Nat) (v : Value) (d : DM) : Prop := ArgM w lo hi v d ∧ totM d ≤ 1048576
section
variable {w w' : World} {lo hi lo' hi' B : Nat} {v : Value} {d : DM}
theorem ArgM.below (h : ArgM w lo hi v d) (hb : Below B w w') (hB : hi ≤ B ∨ w.heap.size ≤ B) : ArgM w' lo hi v d := by
 obtain ⟨x, v4, e, h1, a0⟩ := h;exact ⟨x, v4, e, h1.below hb hB, a0.below hb hB⟩
theorem FreshM.below (h : FreshM w lo hi v d) (hb : Below B w w') (hB : hi ≤ B ∨ w.heap.size ≤ B) : FreshM w' lo hi v d := ⟨h.1.below hb hB, h.2⟩
end
abbrev laidL : List (String × DataW Unit) := Rows.fnLtsRow.laid
theorem pow_data : (Rows.laid_internal_strconv_uint64pow10 : DataW Unit) = Lib.tabData .u64 Lib.pow10Tab := by kernel_rfl
theorem good_of {W : World} (h : laidMet Tryz.prog laidL W) (hS : W.ShapedOpen Tryz.prog) : Good W := by
 have h3 : laidMet Tryz.prog (("internal/strconv.uint64pow10", Lib.tabData .u64 Lib.pow10Tab) :: [("unicode/utf8.acceptRanges", Rows.laid_unicode_utf8_acceptRanges), ("strconv.ErrRange", Rows.laid_strconv_ErrRange), ("strconv.ErrSyntax", Rows.laid_strconv_ErrSyntax), ("unicode/utf8.first", Rows.laid_unicode_utf8_first)]) W := by
  rw [← pow_data];exact h.tail.tail
 have h6 : laidMet Tryz.prog (("strconv.ErrSyntax", Rows.laid_strconv_ErrSyntax) :: [("unicode/utf8.first", Rows.laid_unicode_utf8_first)]) W := h3.tail.tail.tail;refine ⟨hS, Lib.tabIs_of_head (g := 1) (t := 324) (e := 137) (n := 20) (by kernel_rfl) (by kernel_rfl) Tryz.underlying324 Tryz.underlying137 (by kernel_rfl) (by kernel_rfl) h3, ?_⟩;obtain ⟨ps, ⟨g0, t0, cs0, f0, p0, q0, hg0, ht0, hv0, hd0, _, e0⟩, _, hrows⟩ := h6;have hg : Tryz.prog.globalNamed "strconv.ErrSyntax" = some 4 := by kernel_rfl
 have ht : (Tryz.prog.globals[4]?).map (·.type) = some 224 := by kernel_rfl
 obtain rfl := Option.some.inj (hg.symm.trans hg0);obtain rfl := Option.some.inj (ht.symm.trans ht0);obtain ⟨l0⟩ := cs0;obtain ⟨_, u, v, e1, _, _⟩ := iface_of_trod Tryz.underlying224 hd0;have e2 : l0 = [.iface u v] := e1;subst e2;exact ⟨u, v, hv0⟩
section
variable {H : Type} {enc : TypeId × Value → H} {P : Program} {w : World} {base : Nat} {spare : Nat → Bool} {held : Bool}
end
end Go.Proofs.YtnhomkmfbngmgaaGreatDoor
namespace Go.Proofs.YtnhomkmfbngmgaaGreatDoor
open Go.ChangeShapes Go.WideShapes Go.ChangeAt Go.RowKit
theorem fact_laid : laidOutB Tryz.pinned.checked.prog = true := by kernel_rfl
theorem fact_maps : mapsRowed Tryz.pinned.checked.prog = true := by kernel_rfl
theorem fact_heard : Tryz.pinned.checked.prog.stopsHeard = true := by kernel_rfl
theorem fact_enter : Tryz.pinned.checked.prog.mayEnter = true := by kernel_rfl
theorem fact_lifts : Tryz.pinned.checked.prog.liftsFinal = Rows.fnLtsRow.lifted := by kernel_rfl
theorem fact_make : Tryz.pinned.checked.prog.make = some Rows.fnLtsRow.make := by kernel_rfl
theorem fact_main : Tryz.pinned.checked.prog.mainIs = some (true, "908aadf79a3911da7d4960582ae04b5fb7cbc5fbb004ba15854af102615e9df1".toList) := by kernel_rfl
theorem fact_looks : true = Tryz.pinned.checked.prog.looks [] := by kernel_rfl
theorem plain_laid : (laidL.filter fun x => x.2.handleName?.isSome) = [] := by kernel_rfl
theorem pre_laid {H : Type} {enc : TypeId × Value → H} {P : Program} {f : Func} {s : OpenSpec} {c : OpenClaim} (hl : c.laid = laidL) :
  c.pre enc P f s = fun w args => (s.pre enc P f c.domain c.apart w args ∧ laidMet P laidL w) ∧ sizedMet enc P f s c.apart w args := by
 obtain ⟨x, r, e⟩ : ∃ x r, laidL = x :: r := ⟨_, _, rfl⟩;have hp := plain_laid
 funext w args
 unfold OpenClaim.pre OpenClaim.preLaid;rw [hl];rw [e] at hp ⊢
 show ((_ ∧ laidMetH P (x :: r) w) ∧ _) = _
 unfold laidMetH;rw [hp]
end Go.Proofs.YtnhomkmfbngmgaaGreatDoor
