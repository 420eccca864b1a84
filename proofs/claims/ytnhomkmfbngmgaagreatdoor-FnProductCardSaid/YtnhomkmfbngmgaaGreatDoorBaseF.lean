/-
  Lemmas that the law of this claim leans on. Conditions: sizes.
-/
import Derived.Test.YtnhomkmfbngmgaaGreatDoorBaseA
import Derived.Test.YtnhomkmfbngmgaaGreatDoorBaseB
import Derived.Test.YtnhomkmfbngmgaaGreatDoorBaseC
import Derived.Test.YtnhomkmfbngmgaaGreatDoorBaseE
import Derived.StillTailTactics
import Derived.StillTail
import Derived.OrdersHeld
import Derived.Deep.RegionHeld3
set_option maxHeartbeats 6400000
set_option maxRecDepth 100000
set_option linter.unusedSimpArgs false
set_option linter.unusedVariables false
namespace Go.Proofs.YtnhomkmfbngmgaaGreatDoor
open Go.ChangeShapes Go.WideShapes Go.ChangeAt Go.RowKit
def MadeE (ts : List ByteArray) (es es2 : List Ed) : Prop := RisE es2 ∧ es2.length ≤ es.length ∧ ∀ x, x ∈ es2 → ∃ e, e ∈ es ∧ x.1 = e.1 ∧ x.2.2 = e.2.2 ∧ 0 ≤ x.2.1 ∧ x.2.1 < ((joiF ts).length : Int)
theorem MadeE.start (ts : List ByteArray) : MadeE ts [] [] := ⟨List.Pairwise.nil, zR, fun x hx => absurd hx List.not_mem_nil⟩
theorem MadeE.put {ts : List ByteArray} {es es2 es3 : List Ed} {k : Nat} {f lb t i : Int} (h : MadeE ts (es.take k) es2) (hk : es[k]? = some (f, lb, t)) (hi : 0 ≤ i ∧ i < ((joiF ts).length : Int)) (hp : PutO es2 (f, i, t) es3) : MadeE ts (es.take (k + 1)) es3 := by
 have hkl := (List.getElem?_eq_some_iff.1 hk).1;have e : es.take (k + 1) = es.take k ++ [(f, lb, t)] := by rw [List.take_add_one, hk]; rfl
 refine ⟨hp.1, ?_, fun x hx => ?_⟩
 ·have h1 := hp.2.2
  have h2 := h.2.1;rw [e, List.length_append];simp only [List.length_singleton];omega
 ·rcases (hp.2.1 x).1 hx with rfl | hx
  ·exact ⟨(f, lb, t), by rw [e]; exact List.mem_append_right _ (List.mem_singleton.2 rfl), rfl, rfl, hi⟩
  ·obtain ⟨y, hy, r⟩ := h.2.2 x hx
   exact ⟨y, by rw [e]; exact List.mem_append_left _ hy, r⟩
theorem joi_mem {ts : List ByteArray} {s : ByteArray} (h : s ∈ ts) : s ∈ joiF ts := by
 unfold joiF;refine List.mem_map.2 ⟨toL s, ?_, ofL_toL s⟩;rw [compactL_mem, List.mem_mergeSort];exact List.mem_map_of_mem (List.mem_cons_of_mem _ h)
theorem joi_find {ts : List ByteArray} {s : ByteArray} {i : Int} (h : s ∈ ts) (hf : FindI (joiF ts) s i) : 0 ≤ i ∧ i < ((joiF ts).length : Int) := by
 rcases hf with ⟨-, h2⟩ | ⟨k, rfl, h2, -⟩
 ·rw [any_of_mem.2 (joi_mem h)] at h2; cases h2
 ·have := (List.getElem?_eq_some_iff.1 h2).1
  omega
theorem results_cell1 {fn : Func} {p : Tmp} {ty : TypeId} (h : fn.results = #[.cell p ty]) (tmps : Array Value) (P : Program) (w : World) :
  (results fn tmps).run P w = ((asAddr (tmps.getD p undef)).run P w).andThen fun a w₁ => (loadVar ty a).run P w₁ := by
 simp only [results, h]
 simp [Sem.run_bind, Result.andThen]
theorem l11Make_calls (st ini : Int) (A : Option Addr) (n c : Nat) (ts : List ByteArray) (B : Option Addr) (m d : Nat) (es : List Ed) (w : World) (hs : SlS w 0 w.heap.size A n ts) (he : SlE w 0 w.heap.size B m es) (hl : ∀ e, e ∈ es → 0 ≤ e.2.1 ∧ e.2.1 < (n : Int)) (hn : n ≤ 99999) (hm : m ≤ 99999) :
  Calls Tryz.prog 94 #[.int .i64 st, .int .i64 ini, .slice A n c, .slice B m d] w fun e w' => ∃ A2 n2 c2 B2 m2 d2 es2, e = .returned (.agg #[.int .i64 st, .int .i64 ini, .slice A2 n2 c2, .slice B2 m2 d2]) ∧ SlS w' w.heap.size w'.heap.size A2 n2 (joiF ts) ∧ SlE w' w.heap.size w'.heap.size B2 m2 es2 ∧ MadeE ts es es2 ∧ Below w.heap.size w w' := by
 have hB0 := hide ((Below.refl w.heap.size w).alloc zR (.cells #[.int .i64 0, .int .i64 0, .slice none 0 0, .slice none 0 0] 27));have k8 := heap_alloc_new w (.cells #[.int .i64 0, .int .i64 0, .slice none 0 0, .slice none 0 0] 27);have hz1 : w.heap.size < (w.alloc (.cells #[.int .i64 0, .int .i64 0, .slice none 0 0, .slice none 0 0] 27)).heap.size := by simp
 obtain ⟨w1, hw1⟩ : ∃ w1, w1 = w.alloc (.cells #[.int .i64 0, .int .i64 0, .slice none 0 0, .slice none 0 0] 27) := ⟨_, rfl⟩;rw [← hw1] at hB0 k8 hz1;have qj := hide (l11Join_calls A n c ts w1 0 w.heap.size (hs.below hB0.out (.inl zR)) (by omega) (by omega));have hlen := hide he.len;have hlenS := hide hs.len;replace hs := hide hs;replace he := hide he;replace hl := hide hl;replace k8 := hide k8;go_enter Tryz.func94, Tryz.ntmps94;go_upto_region 1 with fail;rw [← hw1];replace hw1 := hide hw1;go_wp2_with fail;refine qj.out.mono ?_;rintro e w2 ⟨A2, n2, c2, rfl, hJ, hb2⟩;have hz2 := hb2.size;have hO0 := (Own.made (α := Ed) (size := 3) (f := ev) w2 84 zR).alloc (.cells #[.int .i64 st, .int .i64 ini, .slice A2 n2 c2, .slice (some ⟨w2.heap.size, 0, none⟩) 0 0] 27);have hbo := heap_alloc_new (w2.alloc (.cells #[] 84)) (.cells #[.int .i64 st, .int .i64 ini, .slice A2 n2 c2, .slice (some ⟨w2.heap.size, 0, none⟩) 0 0] 27);rw [World.size_alloc] at hbo;have hbL := ((Below.refl w2.heap.size w2).alloc zR (.cells #[] 84)).alloc (by rw [World.size_alloc]; omega) (.cells #[.int .i64 st, .int .i64 ini, .slice A2 n2 c2, .slice (some ⟨w2.heap.size, 0, none⟩) 0 0] 27);obtain ⟨wL, hwL⟩ : ∃ wL, wL = (w2.alloc (.cells #[] 84)).alloc (.cells #[.int .i64 st, .int .i64 ini, .slice A2 n2 c2, .slice (some ⟨w2.heap.size, 0, none⟩) 0 0] 27) := ⟨_, rfl⟩;rw [← hwL] at hO0 hbo hbL;replace hO0 := hide hO0;replace hbo := hide hbo;replace hbL := hide hbL;replace hJ := hide hJ;replace hb2 := hide hb2;obtain ⟨bo, hboe⟩ : ∃ bo, bo = w2.heap.size + 1 := ⟨_, rfl⟩;rw [← hboe] at hbo;have hJs := hide (hJ.out.sl flat_strv);have hjn := hide hJ.out.len;have hJlen : Hid ((joiF ts).length ≤ ts.length + 1) := by
  show _ ≤ _
  unfold joiF;rw [List.length_map];refine Nat.le_trans (Go.Lib.compact_length_le _) ?_;rw [List.length_mergeSort, List.length_map, List.length_cons];exact zR
 clear qj;go_upto_region 3 with fail;rw [← hwL, ← hboe];replace hwL := hide hwL;have hbow : w2.heap.size < bo := by omega
 replace hboe := hide hboe
 go_loopw [10] (fun i wr => ∃ (k : Nat) (E : Option Addr) (mm cc : Nat) (es1 : List Ed), k ≤ m ∧ i = .int .i64 (k : Nat) ∧ Hid (wr.heap[bo]? = some (.cells #[.int .i64 st, .int .i64 ini, .slice A2 n2 c2, .slice E mm cc] 27 (0, 0))) ∧ Hid (Own 3 ev wr w2.heap.size 84 E mm cc es1) ∧ Hid (MadeE ts (es.take k) es1) ∧ Hid (∀ g, (Value.slice E mm cc).ownBlock = some g → g ≠ bo) ∧ Hid (Below w2.heap.size w2 wr)) (fun i _ => m - (intOf i).toNat)
 case atStart => exact ⟨0, _, 0, 0, [], Nat.zero_le _, rfl, hbo.out, hO0.out, MadeE.start ts, (fun g e => by cases e; exact Nat.ne_of_lt hbow), hbL.out⟩
 case round =>
  clear hO0 hbo hbL;obtain ⟨k, E, mm, cc, es1, hk, rfl, hbo, hO, hM, hne, hb⟩ := hrel;have hb1 := hide (hb2.out.trans (hb.out.mono hz2));have hbw := hide (hB0.out.trans (hb1.out.mono (by omega)))
  by_cases hlt : k < m
  ·have k0 : (0 : Int) ≤ (k : Int) := by omega
   have k1 : (k : Int) < (m : Int) := by omega
   obtain ⟨gb, ob, f, lb, t, rfl, -, -, hgb, hx, x0, x1, x2, -⟩ := SlE.get (he.out.below hbw.out (.inl zR)) hlt;obtain ⟨hl0, hl1⟩ := hl.out _ (List.mem_of_getElem? hx)
   (try dsimp only at hl0 hl1)
   obtain ⟨l, rfl⟩ : ∃ l : Nat, lb = (l : Int) := ⟨lb.toNat, by omega⟩;have hbx := heap_alloc_new wr (.cells #[.int .i64 f, .int .i64 (l : Int), .int .i64 t] 84);obtain ⟨wE, hwE⟩ : ∃ wE, wE = wr.alloc (.cells #[.int .i64 f, .int .i64 (l : Int), .int .i64 t] 84) := ⟨_, rfl⟩;rw [← hwE] at hbx;obtain ⟨be, hbe⟩ : ∃ be, be = wr.heap.size := ⟨_, rfl⟩;rw [← hbe] at hbx;have hBE := hide ((hb.out.alloc hb.out.size (.cells #[.int .i64 f, .int .i64 (l : Int), .int .i64 t] 84)));rw [← hwE] at hBE;have hbwE := hB0.out.trans ((hb2.out.trans (hBE.out.mono hz2)).mono (by omega));obtain ⟨bA, oA, s, rfl, -, -, -, hts, cs, -⟩ := SlS.get (hs.out.below hbwE (.inl zR)) (show l < n by omega);have hbol : bo < wr.heap.size := (Array.getElem?_eq_some_iff.1 hbo.out).1;have hboE : wE.heap[bo]? = _ := ((show wE.heap[bo]? = wr.heap[bo]? by rw [hwE]; exact Below.heap_alloc _ _ _ hbol)).trans hbo.out;have c2' : wE.cell? ⟨bo, 2, none⟩ = some (.slice A2 n2 c2) := cR 2 hboE;have y1 : wE.cell? ⟨be, 1, none⟩ = some (.int .i64 (l : Int)) := cR 1 hbx;have z1 : wE.frozen? ⟨be, 1, none⟩ = false := frozen_of_row _ _ 1 _ _ hbx;have hbel : be < wE.heap.size := (Array.getElem?_eq_some_iff.1 hbx).1;have l0 : (0 : Int) ≤ (l : Int) := by omega
   have l1 : (l : Int) < (n : Int) := by omega
   have qf := hide (l11Find_calls s A2 n2 c2 (joiF ts) wE.drew _ _ ((hJs.out.below hBE.out (.inl zR)).drewN 1) (by
    have h1 := hjn.out;have h2 := hJlen.out;have h3 := hlenS.out
    omega))
   have hsm := hide (List.mem_of_getElem? hts);replace hx := hide hx;clear hts;go_upto_region 6 with fail;rw [← hwE, ← hbe];replace hwE := hide hwE;replace hbe := hide hbe;replace hbx := hide hbx;replace hboE := hide hboE;clear x0 x1 x2
   go_still_tail 7, (by kernel_rfl)
   change wpList _ _ _ _ _ wE.drew
   go_upto_region 7 with (first | (go_at_call 174; (with_reducible refine qf.out.mono ?_); rintro e w5 ⟨i, rfl, hfi, rfl⟩));obtain ⟨wF, hwG⟩ : ∃ wF, wF = (wE.setCell ⟨be, 1, none⟩ (.int .i64 i)).drew := ⟨_, rfl⟩;have hwF : wF = wE.drew.setCell ⟨be, 1, none⟩ (.int .i64 i) := by
    rw [hwG]
    first | rfl | simp
   have hbxF : Hid (wF.heap[be]? = some (.cells #[.int .i64 f, .int .i64 i, .int .i64 t] 84 (0, 0))) := by
    show _ = _
    rw [hwF];exact heap_setCell_same wE.drew be 1 _ _ (.int .i64 i) hbx.out
   have hsame : ∀ q, q ≠ be → wF.heap[q]? = wE.heap[q]? := fun q hq => by rw [hwF]; exact Below.heap_setCell _ _ _ _ hq
   have hbF : Hid (Below w2.heap.size w2 wF) := by
    show Below _ _ _
    rw [hwF];have h0 : Below w2.heap.size w2 wE.drew := hBE.out.trans ⟨rfl, rfl, rfl, zR, fun _ _ => rfl⟩;exact h0.setCell (p := ⟨be, 1, none⟩) (by show w2.heap.size ≤ be; rw [hbe.out]; exact hb.out.size) (.int .i64 i)
   have hEbe : ∀ q, (Value.slice E mm cc).ownBlock = some q → q < be := fun q e => by rw [hbe.out]; exact (hO.out.lt q e).2
   have hOF := hO.out.keep (w' := wF) fun q e => (hsame q (by have := hEbe q e; omega)).trans (by rw [hwE.out]; exact Below.heap_alloc _ _ _ (hO.out.lt q e).2)
   have hbne : bo ≠ be := by rw [hbe.out]; omega
   have hboF : wF.heap[bo]? = _ := (hsame bo hbne).trans hboE.out;have hboFl : bo < wF.heap.size := (Array.getElem?_eq_some_iff.1 hboF).1;have hM1 := hM.out.2.1;rw [List.length_take] at hM1;have hmm := hO.out.len;have qp := hide (l11Put_calls E mm cc es1 f i t wF w2.heap.size hOF hM.out.1 (by omega) hbF.out.size);have c3' : wF.cell? ⟨bo, 3, none⟩ = some (.slice E mm cc) := cR 3 hboF;have b0 : wF.cell? ⟨be, 0, none⟩ = some (.int .i64 f) := cR 0 hbxF.out;have b1 : wF.cell? ⟨be, 1, none⟩ = some (.int .i64 i) := cR 1 hbxF.out;have b2 : wF.cell? ⟨be, 2, none⟩ = some (.int .i64 t) := cR 2 hbxF.out;have hi := joi_find hsm.out hfi;have hne2 := hide hne.out;replace hboF := hide hboF;rw [← hwG];replace hwF := hide hwF;replace hwG := hide hwG;clear c2' y1 z1 cs qf hOF hsame;go_wp2_with fail;refine qp.out.mono ?_;rintro e w8 ⟨A8, n8, c8, es8, rfl, hO8, hP8, hb8, hG8, hr8⟩;have hbo8 : w8.heap[bo]? = _ := (hG8.block bo hboFl (fun e => hne2.out bo e.symm rfl)).trans hboF.out;have d3 : w8.cell? ⟨bo, 3, none⟩ = some (.slice E mm cc) := cR 3 hbo8;have f3 : w8.frozen? ⟨bo, 3, none⟩ = false := frozen_of_row _ _ 3 _ _ hbo8;have hbo9 : Hid ((w8.setCell ⟨bo, 3, none⟩ (.slice A8 n8 c8)).heap[bo]? = some (.cells #[.int .i64 st, .int .i64 ini, .slice A2 n2 c2, .slice A8 n8 c8] 27 (0, 0))) := heap_setCell_same w8 bo 3 _ _ (.slice A8 n8 c8) hbo8;have hne8 : ∀ q, (Value.slice A8 n8 c8).ownBlock = some q → q ≠ bo := fun q e => by
    rcases hr8 with h | ⟨q2, h, hq2⟩
    ·exact hne2.out q (h.symm.trans e)
    ·rw [h] at e
     injection e with e;omega
   have hO9 := hide (hO8.keep (w' := w8.setCell ⟨bo, 3, none⟩ (.slice A8 n8 c8)) fun q e => Below.heap_setCell _ _ _ _ (hne8 q e));have hM9 := hide (hM.out.put hx.out hi hP8);have hb9 := hide ((hbF.out.trans hb8).setCell (p := ⟨bo, 3, none⟩) (Nat.le_of_lt hbow) (.slice A8 n8 c8));replace hne8 := hide hne8;replace hbo8 := hide hbo8;clear qp hO8 hP8 hb8 hG8 hr8 hx;go_wp2_with fail;go_roundw
   case rel => exact ⟨k + 1, A8, n8, c8, es8, by omega, by go_num, hbo9.out, hO9.out, hM9.out, hne8.out, hb9.out⟩
   case measure => simp [intOf]; omega
  ·obtain rfl : k = m := by omega
   have k1 : ¬ (k : Int) < (k : Int) := by omega
   have hMf : Hid (MadeE ts es es1) := by
    have := hM.out;rw [List.take_of_length_le (by rw [hlen.out]; exact zR)] at this;exact this
   have h8 : wr.heap[w.heap.size]? = _ := (hb1.out.block w.heap.size hz1).trans k8.out;have a0 : wr.cell? ⟨w.heap.size, 0, none⟩ = some (.int .i64 0) := cR 0 h8;have a1 : wr.cell? ⟨w.heap.size, 1, none⟩ = some (.int .i64 0) := cR 1 h8;have a2 : wr.cell? ⟨w.heap.size, 2, none⟩ = some (.slice none 0 0) := cR 2 h8;have a3 : wr.cell? ⟨w.heap.size, 3, none⟩ = some (.slice none 0 0) := cR 3 h8;have z0 : wr.frozen? ⟨w.heap.size, 0, none⟩ = false := frozen_of_row _ _ 0 _ _ h8;have z1 : wr.frozen? ⟨w.heap.size, 1, none⟩ = false := frozen_of_row _ _ 1 _ _ h8;have z2 : wr.frozen? ⟨w.heap.size, 2, none⟩ = false := frozen_of_row _ _ 2 _ _ h8;have z3 : wr.frozen? ⟨w.heap.size, 3, none⟩ = false := frozen_of_row _ _ 3 _ _ h8;have b0 : wr.cell? ⟨bo, 0, none⟩ = some (.int .i64 st) := cR 0 hbo.out;have b1 : wr.cell? ⟨bo, 1, none⟩ = some (.int .i64 ini) := cR 1 hbo.out;have b2 : wr.cell? ⟨bo, 2, none⟩ = some (.slice A2 n2 c2) := cR 2 hbo.out;have b3 : wr.cell? ⟨bo, 3, none⟩ = some (.slice E mm cc) := cR 3 hbo.out;have hJr := hide (hJs.out.below hb.out (.inl zR));have hOr := hide (hO.out.sl flat_ev);replace h8 := hide h8;clear hM;go_wp2_with fail
   (try simp only [Exit.inBlock, Exit.then])
   refine bodyPost_ret_by (v := .agg #[.int .i64 st, .int .i64 ini, .slice A2 n2 c2, .slice E mm cc]) ?_ rfl ?_
   focus
    rw [results_cell1 rfl];go_simp
   obtain ⟨wZ, hwZ⟩ : ∃ wZ, wZ = ((((wr.setCell ⟨w.heap.size, 0, none⟩ (.int .i64 st)).setCell ⟨w.heap.size, 1, none⟩ (.int .i64 ini)).setCell ⟨w.heap.size, 2, none⟩ (.slice A2 n2 c2)).setCell ⟨w.heap.size, 3, none⟩ (.slice E mm cc)) := ⟨_, rfl⟩;have hZ : ∀ q, q ≠ w.heap.size → wZ.heap[q]? = wr.heap[q]? := fun q hq => by
    rw [hwZ, Below.heap_setCell _ _ _ _ hq, Below.heap_setCell _ _ _ _ hq, Below.heap_setCell _ _ _ _ hq, Below.heap_setCell _ _ _ _ hq]
   have hZs : wZ.heap.size = wr.heap.size := by rw [hwZ]; simp
   have hZb : Below w.heap.size w wZ := by
    rw [hwZ];exact (((hbw.out.setCell (p := ⟨w.heap.size, 0, none⟩) zR _).setCell (p := ⟨w.heap.size, 1, none⟩) zR _).setCell (p := ⟨w.heap.size, 2, none⟩) zR _).setCell (p := ⟨w.heap.size, 3, none⟩) zR _
   rw [← hwZ];have hbs := hb.out.size;have h1 : SlS wZ w.heap.size wZ.heap.size A2 n2 (joiF ts) := (Sl.keep hJr.out (by omega) fun q h1 h2 h3 => hZ q (by omega)).more (by omega) (by omega);have h2 : SlE wZ w.heap.size wZ.heap.size E mm es1 := (Sl.keep hOr.out (by omega) fun q h1 h2 h3 => hZ q (by omega)).more (by omega) (by omega);exact ⟨_, _, _, _, _, ⟨_, rfl⟩, h1, _, h2, hMf.out, hZb⟩
def nm5 : List ByteArray := [⟨#[97]⟩, ⟨#[98]⟩, ⟨#[99]⟩, ⟨#[103, 101, 116, 40, 48, 41]⟩, ⟨#[103, 101, 116, 40, 49, 41]⟩]
def NamD (ts : List ByteArray) : Prop := ∀ x, x ∈ ts → x = tauB ∨ x ∈ nm5
theorem NamD.app {ts : List ByteArray} (h : NamD ts) {x : ByteArray} (hx : x ∈ nm5) : NamD (ts ++ [x]) := fun y hy => by
 rcases List.mem_append.1 hy with h1 | h1
 ·exact h y h1
 ·rw [List.mem_singleton.1 h1]; exact .inr hx
theorem l11DrawNames_calls (b N : Nat) (w : World) (h : SrcW w b N) (hN : N ≤ 800000000) :
  Calls Tryz.prog 209 #[.pointer (some ⟨b, 0, none⟩)] w fun e w' => ∃ A n c ts, e = .returned (.slice A n c) ∧ SlS w' w.heap.size w'.heap.size A n ts ∧ 2 ≤ n ∧ n ≤ 5 ∧ NamD ts ∧ SrcW w' b (N + 10) ∧ Only b (b + 1) w w' := by
 have hE := hide elem_str;have hbl := h.lt;have k1 := heap_alloc_new w (.cells #[.string tauB] 9);have hO1 : Own 1 strv (w.alloc (.cells #[.string tauB] 9)) w.heap.size 9 (some ⟨w.heap.size, 0, none⟩) 1 1 [tauB] := Own.litL k1 rfl zR;have hO0 := hO1.alloc (.cells #[.string ⟨#[97]⟩, .string ⟨#[98]⟩, .string ⟨#[99]⟩, .string ⟨#[103, 101, 116, 40, 48, 41]⟩, .string ⟨#[103, 101, 116, 40, 49, 41]⟩] 9);have hS0 := (h.alloc (.cells #[.string tauB] 9)).alloc (.cells #[.string ⟨#[97]⟩, .string ⟨#[98]⟩, .string ⟨#[99]⟩, .string ⟨#[103, 101, 116, 40, 48, 41]⟩, .string ⟨#[103, 101, 116, 40, 49, 41]⟩] 9);have hon := ((Only.refl b (b + 1) w).alloc' (.cells #[.string tauB] 9)).alloc' (.cells #[.string ⟨#[97]⟩, .string ⟨#[98]⟩, .string ⟨#[99]⟩, .string ⟨#[103, 101, 116, 40, 48, 41]⟩, .string ⟨#[103, 101, 116, 40, 49, 41]⟩] 9);have hbx := heap_alloc_new (w.alloc (.cells #[.string tauB] 9)) (.cells #[.string ⟨#[97]⟩, .string ⟨#[98]⟩, .string ⟨#[99]⟩, .string ⟨#[103, 101, 116, 40, 48, 41]⟩, .string ⟨#[103, 101, 116, 40, 49, 41]⟩] 9);rw [World.size_alloc] at hbx;have hz0 : w.heap.size + 2 ≤ ((w.alloc (.cells #[.string tauB] 9)).alloc (.cells #[.string ⟨#[97]⟩, .string ⟨#[98]⟩, .string ⟨#[99]⟩, .string ⟨#[103, 101, 116, 40, 48, 41]⟩, .string ⟨#[103, 101, 116, 40, 49, 41]⟩] 9)).heap.size := by simp
 obtain ⟨wA, hwA⟩ : ∃ wA, wA = (w.alloc (.cells #[.string tauB] 9)).alloc (.cells #[.string ⟨#[97]⟩, .string ⟨#[98]⟩, .string ⟨#[99]⟩, .string ⟨#[103, 101, 116, 40, 48, 41]⟩, .string ⟨#[103, 101, 116, 40, 49, 41]⟩] 9) := ⟨_, rfl⟩;rw [← hwA] at hO0 hS0 hon hbx hz0;replace hO0 := hide hO0;replace hS0 := hide hS0;replace hon := hide hon;replace hbx := hide hbx;clear h hO1 k1;go_enter Tryz.func209, Tryz.ntmps209;go_upto_region 4 with fail;have hwA' : (w.alloc (.cells #[.string ⟨#[116, 97, 117]⟩] 9)).alloc (.cells #[.string ⟨#[97]⟩, .string ⟨#[98]⟩, .string ⟨#[99]⟩, .string ⟨#[103, 101, 116, 40, 48, 41]⟩, .string ⟨#[103, 101, 116, 40, 49, 41]⟩] 9) = wA := hwA.symm;rw [hwA'];replace hwA := hide hwA;replace hwA' := hide hwA'
 go_loopw [3, 5] (fun o i wr => ∃ (k : Nat) (A : Option Addr) (m c : Nat) (ts : List ByteArray), k ≤ 5 ∧ i = .int .i64 (k : Nat) ∧ o = .slice A m c ∧ 1 ≤ m ∧ m ≤ 4 ∧ Hid (Own 1 strv wr w.heap.size 9 A m c ts) ∧ Hid (NamD ts) ∧ Hid (SrcW wr b (N + 2 * k)) ∧ Hid (Only b (b + 1) w wr) ∧ Hid (wr.heap[w.heap.size + 1]? = wA.heap[w.heap.size + 1]?) ∧ Hid (∀ g, (Value.slice A m c).ownBlock = some g → g ≠ w.heap.size + 1) ∧ w.heap.size + 2 ≤ wr.heap.size) (fun _ i _ => 5 - (intOf i).toNat)
 case atStart => exact ⟨0, _, 1, 1, [tauB], Nat.zero_le _, rfl, rfl, zR, by omega, hO0.out, (fun x hx => .inl (List.mem_singleton.1 hx)), hS0.out, hon.out, rfl, (fun g e => by cases e; exact Nat.ne_of_lt (Nat.lt_succ_self _)), hz0⟩
 case round =>
  clear hO0 hS0 hon;obtain ⟨k, A, m, c, ts, hk, rfl, rfl, hm1, hm4, hO, hD, hS, hon, hbk, hnb, hzr⟩ := hrel
  by_cases hlt : k < 5
  ·have k0 : (0 : Int) ≤ (k : Int) := by omega
   have k1 : (k : Int) < 5 := by omega
   have q := hide (one_calls b (N + 2 * k) 2 wr hS.out (by omega));have hc : ∃ x, x ∈ nm5 ∧ ∀ W : World, W.heap[w.heap.size + 1]? = wA.heap[w.heap.size + 1]? → W.cell? ⟨w.heap.size + 1, k, none⟩ = some (.string x) := by
    have : k = 0 ∨ k = 1 ∨ k = 2 ∨ k = 3 ∨ k = 4 := by omega
    rcases this with rfl | rfl | rfl | rfl | rfl
    all_goals
     refine ⟨_, ?_, fun W hW => (cell_of_row _ _ _ _ _ (0, 0) (hW.trans hbx.out)).trans rfl⟩
     simp [nm5]
   obtain ⟨x, hxm, hxc⟩ := hc;replace hxc := hide hxc;have hbw := hS.out.lt;go_upto_region 6 with fail;go_wp2_with fail;refine q.out.mono ?_;rintro e w5 ⟨v, rfl, hT⟩;have hO5 := hide (hO.out.keep (w' := w5) fun g e => hT.only.block g (hO.out.lt g e).2 (by have := (hO.out.lt g e).1; omega));have hS5 := hide (hT.src.more (show N + 2 * k + 2 ≤ N + 2 * (k + 1) by omega));have hon5 := hide (Only.trans' hon.out hT.only);have hbk5 := hide ((hT.only.block (w.heap.size + 1) (by omega) (by omega)).trans hbk.out);have hz5 : w.heap.size + 2 ≤ w5.heap.size := by have := hT.size; omega
   have cx := hxc.out w5 hbk5.out;clear q hO hS hon hbk hT
   cases v with
   | false =>
    clear cx;go_wp2_with fail;go_roundw
    case rel => exact ⟨k + 1, A, m, c, ts, by omega, by go_num, rfl, hm1, hm4, hO5.out, hD.out, hS5.out, hon5.out, hbk5.out, hnb.out, hz5⟩
    case measure => simp [intOf]; omega
   | true =>
    by_cases hm : m < 4
    ·have g1 : (m : Int) < 4 := by omega
     have hza : w.heap.size ≤ (w5.alloc (.cells #[.string x] 9)).heap.size := by rw [World.size_alloc]; omega
     have hOa := hide (hO5.out.alloc (.cells #[.string x] 9));have hSa := hide (hS5.out.alloc (.cells #[.string x] 9));have hona := hide (hon5.out.alloc' (.cells #[.string x] 9));have hbka : Hid ((w5.alloc (.cells #[.string x] 9)).heap[w.heap.size + 1]? = wA.heap[w.heap.size + 1]?) := (Below.heap_alloc _ _ _ (by omega)).trans hbk5.out;have hrow := hide (fun q (e : (Value.slice A m c).ownBlock = some q) => (hOa.out.lt q e).1);have hD2 := hide (hD.out.app hxm);clear hO5 hS5 hon5 hbk5;go_wp2_with (first | (at_builtin; (with_reducible refine wpList_app rfl (.tmp 21) (.tmp 26) rfl hE.out flat_strv rfl hOa.out rfl (Sl.lit1' w5 9 x _ rfl 1 _ ?d0) ?d1 hza ?_); rotate_right; intro A6 c6 w6 hown6 hgr6 hb6 hat6))
     case d0 => rfl
     case d1 => omega
     have hS6 := hide (hSa.out.grow hgr6 (fun q e => by have := hrow.out q e; omega));have hon6 := hide (hona.out.grow hgr6 (fun q e => hrow.out q e));have hbk6 := hide ((hgr6.block (w.heap.size + 1) (by rw [World.size_alloc]; omega) (fun e => hnb.out _ e.symm rfl)).trans hbka.out);have hnb6 : Hid (∀ g, (Value.slice A6 (m + 1) c6).ownBlock = some g → g ≠ w.heap.size + 1) := fun g e => by
      rcases hat6 with h1 | h1
      ·exact hnb.out g (h1.symm.trans e)
      ·rw [h1] at e
       injection e with e;rw [World.size_alloc] at e;omega
     have hz6 := hgr6.size;rw [World.size_alloc] at hz6;replace hown6 := hide hown6;clear hgr6 hb6 hat6 hOa hSa hona hbka hrow;go_roundw
     case rel => exact ⟨k + 1, A6, _, c6, _, by omega, by go_num, rfl, by omega, by omega, hown6.out, hD2.out, hS6.out, hon6.out, hbk6.out, hnb6.out, by omega⟩
     case measure => simp [intOf]; omega
    ·have g1 : ¬ (m : Int) < 4 := by omega
     clear cx;go_wp2_with fail;go_roundw
     case rel => exact ⟨k + 1, A, m, c, ts, by omega, by go_num, rfl, hm1, hm4, hO5.out, hD.out, hS5.out, hon5.out, hbk5.out, hnb.out, hz5⟩
     case measure => simp [intOf]; omega
  ·obtain rfl : k = 5 := by omega
   have hSe := hide (hS.out.more (show N + 2 * 5 ≤ N + 10 by omega))
   by_cases hm : m = 1
   ·subst hm
    have hza : w.heap.size ≤ (wr.alloc (.cells #[.string ⟨#[97]⟩] 9)).heap.size := by rw [World.size_alloc]; omega
    have hOa := hide (hO.out.alloc (.cells #[.string ⟨#[97]⟩] 9));have hSa := hide (hSe.out.alloc (.cells #[.string ⟨#[97]⟩] 9));have hona := hide (hon.out.alloc' (.cells #[.string ⟨#[97]⟩] 9));have hrow := hide (fun q (e : (Value.slice A 1 c).ownBlock = some q) => (hOa.out.lt q e).1);have hD2 := hide (hD.out.app (x := ⟨#[97]⟩) (by simp [nm5]));clear hO hS hon hbk hnb;go_wp2_with (first | (at_builtin; (with_reducible refine wpList_app rfl (.tmp 31) (.tmp 32) rfl hE.out flat_strv rfl hOa.out rfl (Sl.lit1' wr 9 (⟨#[97]⟩ : ByteArray) _ rfl 1 _ ?d0) ?d1 hza ?_); rotate_right; intro A6 c6 w6 hown6 hgr6 hb6 hat6))
    case d0 => rfl
    case d1 => omega
    have hS6 := hide (hSa.out.grow hgr6 (fun q e => by have := hrow.out q e; omega));have hon6 := hide (hona.out.grow hgr6 (fun q e => hrow.out q e));have hsl := hide (hown6.sl flat_strv);clear hgr6 hb6 hat6 hOa hSa hona hrow hown6;go_ret;exact ⟨_, _, _, _, rfl, hsl.out, by omega, by omega, hD2.out, hS6.out, hon6.out⟩
   ·have g1 : ((m : Int) == 1) = false := by rw [beq_eq_false_iff_ne]; omega
    have g2 : ¬ m = 1 := hm;have hsl := hide (hO.out.sl flat_strv);go_wp2_with fail;go_ret;exact ⟨_, _, _, _, rfl, hsl.out, by omega, by omega, hD.out, hSe.out, hon.out⟩
end Go.Proofs.YtnhomkmfbngmgaaGreatDoor
namespace Go.Proofs.YtnhomkmfbngmgaaGreatDoor
theorem nm5_lab : ∀ x, x ∈ nm5 → labS x = true ∧ x ≠ tauB := by
 intro x hx;unfold nm5 at hx;simp only [List.mem_cons, List.mem_nil_iff, or_false] at hx
 rcases hx with rfl | rfl | rfl | rfl | rfl
 all_goals exact ⟨by kernel_rfl, by decide⟩
theorem joi_rise (ts : List ByteArray) : ((joiF ts).map toL).Pairwise fun x y => ltL x y = true := by
 unfold joiF;rw [map_toL_ofL2];exact compact_rise (sortL_rise _)
theorem joi_mem_iff (ts : List ByteArray) (x : ByteArray) : x ∈ joiF ts ↔ x = tauB ∨ x ∈ ts := by
 constructor
 ·intro h
  unfold joiF at h;obtain ⟨y, hy, rfl⟩ := List.mem_map.1 h;rw [compactL_mem, List.mem_mergeSort] at hy;obtain ⟨z, hz, rfl⟩ := List.mem_map.1 hy;rw [ofL_toL];exact List.mem_cons.1 hz
 ·intro h
  unfold joiF;refine List.mem_map.2 ⟨toL x, ?_, ofL_toL x⟩;rw [compactL_mem, List.mem_mergeSort];exact List.mem_map_of_mem (List.mem_cons.2 h)
theorem joi_lt {ts : List ByteArray} {i j : Nat} {x y : ByteArray} (hx : (joiF ts)[i]? = some x) (hy : (joiF ts)[j]? = some y) (hij : i < j) : ltL (toL x) (toL y) = true := by
 have hi := List.getElem?_eq_some_iff.1 hx;have hj := List.getElem?_eq_some_iff.1 hy;have := List.pairwise_iff_getElem.1 (joi_rise ts) i j (by rw [List.length_map]; exact hi.1) (by rw [List.length_map]; exact hj.1) hij;rw [List.getElem_map, List.getElem_map, hi.2, hj.2] at this;exact this
theorem not_lt_tau (x : List UInt8) : ltL x tauBL = false := Bool.eq_false_iff.2 fun h => by
 rw [ltL_iff] at h
 rcases h.2 with e | e
 ·exact h.1 e
 ·exact e.1 rfl
theorem joi_head (ts : List ByteArray) : (joiF ts)[0]? = some tauB := by
 have hm : tauB ∈ joiF ts := (joi_mem_iff ts tauB).2 (.inl rfl);obtain ⟨j, hj⟩ := List.getElem?_of_mem hm
 by_cases e : j = 0
 ·rw [← e]; exact hj
 ·have hjl := (List.getElem?_eq_some_iff.1 hj).1
  obtain ⟨x, hx⟩ : ∃ x, (joiF ts)[0]? = some x := ⟨_, List.getElem?_eq_getElem (by omega)⟩;have := joi_lt hx hj (by omega);rw [toL_tau, not_lt_tau] at this
  cases this
theorem joi_names {ts : List ByteArray} (h : ∀ x, x ∈ ts → x = tauB ∨ labS x = true) (hl : (joiF ts).length ≤ 12) : namesB (joiF ts) = true := by
 have h0 := joi_head ts;have hpos := (List.getElem?_eq_some_iff.1 h0).1;unfold namesB;rw [Bool.and_eq_true];refine ⟨inB_true.2 (by omega), allK_good fun k hk => ?_⟩;obtain ⟨s, hs⟩ : ∃ s, (joiF ts)[k]? = some s := ⟨_, List.getElem?_eq_getElem hk⟩
 by_cases k0 : k = 0
 ·subst k0
  rw [okL_zero hs];rw [h0] at hs;injection hs with hs;exact decide_eq_true hs.symm
 ·obtain ⟨y, hy⟩ : ∃ y, (joiF ts)[k - 1]? = some y := ⟨_, List.getElem?_eq_getElem (by omega)⟩
  rw [okL_at hs (by omega) hy];have hst : s ≠ tauB := fun e => by
   have := joi_lt h0 hs (by omega);rw [e, ltL_irr] at this
   cases this
  have hlab : labS s = true := by
   rcases (joi_mem_iff ts s).1 (List.mem_of_getElem? hs) with e | e
   ·exact absurd e hst
   ·rcases h s e with e2 | e2
    ·exact absurd e2 hst
    ·exact e2
  rw [hlab, decide_eq_false hst]
  by_cases k1 : k ≤ 1
  ·simp [k1]
  ·have hlt := joi_lt hy hs (by omega)
   rw [ltL_iff] at hlt;have hyt : toL y ≠ tauBL := fun e => by
    have h3 := joi_lt h0 hy (by omega);rw [toL_tau, e, ltL_irr] at h3
    cases h3
   rcases hlt.2 with e | e
   ·exact absurd e hyt
   ·have : sLess y s = true := by unfold sLess; rw [toL_eq, toL_eq]; exact e.2
    simp [this]
theorem made_valid {st ini : Int} {ts : List ByteArray} {es es2 : List Ed} (h1 : 1 ≤ st ∧ st ≤ 40) (h2 : 0 ≤ ini ∧ ini < st) (hn : ∀ x, x ∈ ts → x = tauB ∨ labS x = true) (hl : (joiF ts).length ≤ 12) (hes : es.length ≤ 300) (he : ∀ e, e ∈ es → (0 ≤ e.1 ∧ e.1 < st) ∧ 0 ≤ e.2.2 ∧ e.2.2 < st) (hm : MadeE ts es es2) : ltsV (st, ini, joiF ts, es2) = true := by
 obtain ⟨m1, m2, m3⟩ := hm;rw [ltsV_eq];simp only [Bool.and_eq_true, decide_eq_true_eq];refine ⟨⟨inB_true.2 (by omega), inB_true.2 (by omega), joi_names hn hl, by omega⟩, allK_good fun k hk => ?_⟩;obtain ⟨⟨f, lb, t⟩, hx⟩ : ∃ x, es2[k]? = some x := ⟨_, List.getElem?_eq_getElem hk⟩;obtain ⟨e, hem, e1, e2, e3, e4⟩ := m3 _ (List.mem_of_getElem? hx);obtain ⟨a1, a2⟩ := he e hem
 (try dsimp only at e1 e2 e3 e4)
 have b1 : inB f 0 (st - 1) = true := inB_true.2 (by omega);have b2 : inB t 0 (st - 1) = true := inB_true.2 (by omega);have b3 : inB lb 0 (((joiF ts).length : Int) - 1) = true := inB_true.2 (by omega)
 by_cases k0 : k = 0
 ·subst k0
  have := okE_zero (st := st) (m := (joiF ts).length) hx;rw [this, b1, b2, b3]; rfl
 ·obtain ⟨r, hr⟩ : ∃ r, es2[k - 1]? = some r := ⟨_, List.getElem?_eq_getElem (by omega)⟩
  have := okE_at (st := st) (m := (joiF ts).length) hx (by omega) hr;rw [this, b1, b2, b3];have p := List.pairwise_iff_getElem.1 m1 (k - 1) k (by omega) hk (by omega);rw [(List.getElem?_eq_some_iff.1 hr).2, (List.getElem?_eq_some_iff.1 hx).2] at p;rw [p]; rfl
open Go.ChangeAt Go.ChangeShapes Go.RowKit Go.WideShapes
def put4 (w : World) (g : Nat) (v0 v1 v2 v3 : Value) : World := (((w.setCell ⟨g, 0, none⟩ v0).setCell ⟨g, 1, none⟩ v1).setCell ⟨g, 2, none⟩ v2).setCell ⟨g, 3, none⟩ v3
theorem put4_other (w : World) (g : Nat) (v0 v1 v2 v3 : Value) {q : Nat} (h : q ≠ g) : (put4 w g v0 v1 v2 v3).heap[q]? = w.heap[q]? := by
 unfold put4;rw [Below.heap_setCell _ _ _ _ h, Below.heap_setCell _ _ _ _ h, Below.heap_setCell _ _ _ _ h, Below.heap_setCell _ _ _ _ h]
theorem put4_size (w : World) (g : Nat) (v0 v1 v2 v3 : Value) : (put4 w g v0 v1 v2 v3).heap.size = w.heap.size := by unfold put4; simp
theorem put4_only {lo hi g : Nat} {a w : World} (h : Only lo hi a w) (hg : a.heap.size ≤ g) (v0 v1 v2 v3 : Value) : Only lo hi a (put4 w g v0 v1 v2 v3) :=
 (((h.setNew (p := ⟨g, 0, none⟩) hg v0).setNew (p := ⟨g, 1, none⟩) hg v1).setNew (p := ⟨g, 2, none⟩) hg v2).setNew (p := ⟨g, 3, none⟩) hg v3
def DrawnG (K M Q b N : Nat) (w : World) (e : Ending) (w' : World) : Prop := ∃ (st ini : Nat) (A : Option Addr) (n c : Nat) (B : Option Addr) (m d : Nat) (ts : List ByteArray) (es : List Ed),
 e = .returned (.agg #[.int .i64 (st : Int), .int .i64 (ini : Int), .slice A n c, .slice B m d]) ∧ SlS w' w.heap.size w'.heap.size A n (joiF ts) ∧ SlE w' w.heap.size w'.heap.size B m es ∧
 ltsV ((st : Int), (ini : Int), joiF ts, es) = true ∧ st ≤ 7 ∧ es.length ≤ M ∧ n ≤ K ∧ NamD ts ∧ SrcW w' b (N + Q) ∧ Only b (b + 1) w w'
def KindO (nb : Nat) (l : List Int) : Prop := (∀ j : Nat, j < nb → j < l.length → l[j]? = some (j : Int)) ∧ ∀ x, x ∈ l → 0 ≤ x ∧ x < (nb : Int)
theorem KindO.start (nb : Nat) : KindO nb [] := ⟨fun j _ h => absurd h (by simp), fun x h => absurd h List.not_mem_nil⟩
theorem KindO.app {nb : Nat} {l : List Int} (h : KindO nb l) {x : Int} (hx : 0 ≤ x ∧ x < (nb : Int)) (hk : l.length < nb → x = (l.length : Int)) : KindO nb (l ++ [x]) := by
 refine ⟨fun j hj hl => ?_, fun y hy => ?_⟩
 ·rw [List.length_append, List.length_singleton] at hl
  by_cases e : j < l.length
  ·rw [List.getElem?_append_left e]; exact h.1 j hj e
  ·obtain rfl : j = l.length := by omega
   rw [List.getElem?_append_right zR, Nat.sub_self, hk hj]
   rfl
 ·rcases List.mem_append.1 hy with g | g
  ·exact h.2 y g
  ·rw [List.mem_singleton.1 g]; exact hx
def EdD (st m : Nat) (es : List Ed) : Prop := ∀ e, e ∈ es → (0 ≤ e.1 ∧ e.1 < (st : Int)) ∧ (0 ≤ e.2.1 ∧ e.2.1 < (m : Int)) ∧ 0 ≤ e.2.2 ∧ e.2.2 < (st : Int)
theorem EdD.start (st m : Nat) : EdD st m [] := fun e h => absurd h List.not_mem_nil
theorem EdD.app {st m : Nat} {es : List Ed} (h : EdD st m es) {f l t : Int} (h1 : 0 ≤ f ∧ f < (st : Int)) (h2 : 0 ≤ l ∧ l < (m : Int)) (h3 : 0 ≤ t ∧ t < (st : Int)) : EdD st m (es ++ [(f, l, t)]) := fun e he => by
 rcases List.mem_append.1 he with g | g
 ·exact h e g
 ·rw [List.mem_singleton.1 g]; exact ⟨h1, h2, h3⟩
theorem joi_len (ts : List ByteArray) : (joiF ts).length ≤ ts.length + 1 := by
 unfold joiF;rw [List.length_map];refine Nat.le_trans (Go.Lib.compact_length_le _) ?_;rw [List.length_mergeSort, List.length_map, List.length_cons];exact zR
theorem l11DrawOk_calls (b N : Nat) (w : World) (h : SrcW w b N) (hN : N ≤ 700000000) :
  Calls Tryz.prog 113 #[.pointer (some ⟨b, 0, none⟩)] w (DrawnG 6 60 1000 b N w) := by
 have hEi := hide elem_int;have hEe := hide elem_edge;have hbl := h.lt;have hon0 := (Only.refl b (b + 1) w).alloc' (.cells #[.int .i64 0, .int .i64 0, .slice none 0 0, .slice none 0 0] 27);have k8 := heap_alloc_new w (.cells #[.int .i64 0, .int .i64 0, .slice none 0 0, .slice none 0 0] 27);have hS0 := h.alloc (.cells #[.int .i64 0, .int .i64 0, .slice none 0 0, .slice none 0 0] 27);have hz0 : w.heap.size < (w.alloc (.cells #[.int .i64 0, .int .i64 0, .slice none 0 0, .slice none 0 0] 27)).heap.size := by simp
 obtain ⟨wA, hwA⟩ : ∃ wA, wA = w.alloc (.cells #[.int .i64 0, .int .i64 0, .slice none 0 0, .slice none 0 0] 27) := ⟨_, rfl⟩;rw [← hwA] at hon0 k8 hS0 hz0;have q1 := hide (pick_calls b N 4 wA hS0 (by omega));replace hon0 := hide hon0;replace k8 := hide k8;clear h hS0;go_enter Tryz.func113, Tryz.ntmps113;go_upto_region 1 with fail;rw [← hwA];replace hwA := hide hwA;go_wp2_with fail;refine q1.out.mono ?_;rintro e w1 ⟨x, rfl, x0, x1, hs1⟩;obtain ⟨nb, hnb⟩ : ∃ nb : Nat, 1 + x = (nb : Int) := ⟨(1 + x).toNat, by omega⟩;have hnb1 : 1 ≤ nb ∧ nb ≤ 4 := by omega
 have q2 := hide (pick_calls b (N + 2) (7 - (nb : Int)) w1 hs1.src (by omega));replace hs1 := hide hs1;clear q1 x0 x1;go_wp2_with fail;refine q2.out.mono ?_;rintro e w2 ⟨y, rfl, y0, y1, hs2⟩;clear hnb;obtain ⟨st, hst⟩ : ∃ st : Nat, (nb : Int) + y = (st : Int) := ⟨((nb : Int) + y).toNat, by omega⟩;have hst1 : nb ≤ st ∧ st ≤ 6 := by omega
 have q3 := hide (l11DrawNames_calls b (N + 2 + 2) w2 hs2.src (by omega));have hz2 : wA.heap.size = w2.heap.size := by have := hs1.out.size; have := hs2.size; omega
 have hon2 := hide (hs1.out.only.trans' hs2.only);replace hz2 := hide hz2;clear q2 y0 y1 hs1 hs2;go_wp2_with fail;refine q3.out.mono ?_;rintro e w3 ⟨A, n, c, ts, rfl, hT, hn2, hn5, hD, hs3, hon3⟩;clear hst;have hT1 := hide (hT.below ((Below.refl w3.heap.size w3).alloc zR (.cells #[] 2)) (.inr zR));have hlT := hide hT.len;have hO0 : Hid (Own 1 iv (w3.alloc (.cells #[] 2)) w3.heap.size 2 (some ⟨w3.heap.size, 0, none⟩) 0 0 ([] : List Int)) := Own.made (α := Int) (size := 1) (f := iv) w3 2 zR;have hs4 := hide (hs3.alloc (.cells #[] 2));have hon4 := hide ((Only.refl b (b + 1) w3).alloc' (.cells #[] 2));have hon30 := hide (hon2.out.trans' hon3);have hz3 : w2.heap.size ≤ w3.heap.size := hon3.size;replace hT := hide hT;replace hD := hide hD;obtain ⟨hnb0, hnb4⟩ := hnb1;obtain ⟨hst0, hst6⟩ := hst1;have hbl3 : b < w3.heap.size := hs3.lt;have hbl2 : b < w2.heap.size := by have := hz2.out; omega
 clear q3 hon2 hs3 hon3;go_wp2_with fail
 go_loopw [6, 7] (fun o i wr => ∃ (k : Nat) (K : Option Addr) (kc : Nat) (l : List Int), k ≤ st ∧ i = .int .i64 (k : Nat) ∧ o = .slice K k kc ∧ Hid (Own 1 iv wr w3.heap.size 2 K k kc l) ∧ Hid (KindO nb l) ∧ Hid (SrcW wr b (N + 14 + 2 * k)) ∧ Hid (Only b (b + 1) w3 wr)) (fun _ i _ => st - (intOf i).toNat)
 case atStart => exact ⟨0, _, 0, [], Nat.zero_le _, rfl, rfl, hO0.out, KindO.start nb, hs4.out, hon4.out⟩
 case round =>
  clear hO0 hs4 hon4 hT1;obtain ⟨k, K, kc, l, hk, rfl, rfl, hO, hK, hS, hon⟩ := hrel;have hzr := hon.out.size;have hll : l.length = k := hO.out.len
  by_cases hlt : k < st
  ·have k1 : (k : Int) < (st : Int) := by omega
   by_cases hkb : k < nb
   ·have k2 : (k : Int) < (nb : Int) := by omega
    have hza : w3.heap.size ≤ (wr.alloc (.cells #[.int .i64 (k : Int)] 2)).heap.size := by rw [World.size_alloc]; omega
    have hOa := hide (hO.out.alloc (.cells #[.int .i64 (k : Int)] 2));have hSa := hide (hS.out.alloc (.cells #[.int .i64 (k : Int)] 2));have hona := hide (hon.out.alloc' (.cells #[.int .i64 (k : Int)] 2));have hrow := hide (fun q (e : (Value.slice K k kc).ownBlock = some q) => (hOa.out.lt q e).1);have hK2 := hide (hK.out.app (x := (k : Int)) (by omega) (fun _ => by omega));clear hO hS hon hll hzr;go_wp2_with (first | (at_builtin; (with_reducible refine wpList_app rfl (.tmp 36) (.tmp 38) rfl hEi.out flat_iv rfl hOa.out rfl (Sl.lit1' wr 2 (k : Int) _ rfl 1 _ ?d0) ?d1 hza ?_); rotate_right; intro A6 c6 w6 hown6 hgr6 hb6 hat6))
    case d0 => rfl
    case d1 => omega
    have hS6 := hide ((hSa.out.grow hgr6 (fun q e => by have := hrow.out q e; omega)).more (show N + 14 + 2 * k ≤ N + 14 + 2 * (k + 1) by omega));have hon6 := hide (hona.out.grow hgr6 (fun q e => hrow.out q e));replace hown6 := hide hown6;clear hgr6 hb6 hat6 hOa hSa hona hrow;go_wp2_with fail;go_roundw
    case rel => exact ⟨k + 1, A6, c6, _, by omega, by go_num, rfl, hown6.out, hK2.out, hS6.out, hon6.out⟩
    case measure => simp [intOf]; omega
   ·have k2 : ¬ (k : Int) < (nb : Int) := by omega
    have q := hide (pick_calls b (N + 14 + 2 * k) (nb : Int) wr hS.out (by omega));go_wp2_with fail;refine q.out.mono ?_;rintro e w5 ⟨z, rfl, z0, z1, hs5⟩;have hO5 := hide (hO.out.keep (w' := w5) fun g e => hs5.only.block g (hO.out.lt g e).2 (by have := (hO.out.lt g e).1; omega));have hon5 := hide (hon.out.trans' hs5.only);have hz5 := hs5.size;have hza : w3.heap.size ≤ (w5.alloc (.cells #[.int .i64 z] 2)).heap.size := by rw [World.size_alloc]; omega
    have hOa := hide (hO5.out.alloc (.cells #[.int .i64 z] 2));have hSa := hide (hs5.src.alloc (.cells #[.int .i64 z] 2));have hona := hide (hon5.out.alloc' (.cells #[.int .i64 z] 2));have hrow := hide (fun q (e : (Value.slice K k kc).ownBlock = some q) => (hOa.out.lt q e).1);have hK2 := hide (hK.out.app (x := z) (by omega) (fun h => by omega));clear hO hS hon hll hzr hz5 hO5 hon5 hs5 q z0 z1;go_wp2_with (first | (at_builtin; (with_reducible refine wpList_app rfl (.tmp 40) (.tmp 44) rfl hEi.out flat_iv rfl hOa.out rfl (Sl.lit1' w5 2 z _ rfl 1 _ ?d0) ?d1 hza ?_); rotate_right; intro A6 c6 w6 hown6 hgr6 hb6 hat6))
    case d0 => rfl
    case d1 => omega
    have hS6 := hide ((hSa.out.grow hgr6 (fun q e => by have := hrow.out q e; omega)).more (show N + 14 + 2 * k + 2 ≤ N + 14 + 2 * (k + 1) by omega));have hon6 := hide (hona.out.grow hgr6 (fun q e => hrow.out q e));replace hown6 := hide hown6;clear hgr6 hb6 hat6 hOa hSa hona hrow;go_wp2_with fail;go_roundw
    case rel => exact ⟨k + 1, A6, c6, _, by omega, by go_num, rfl, hown6.out, hK2.out, hS6.out, hon6.out⟩
    case measure => simp [intOf]; omega
  ·obtain rfl : k = st := by omega
   have k1 : ¬ (k : Int) < (k : Int) := by omega
   obtain ⟨wK, rfl⟩ : ∃ wK : World, wK = wr := ⟨_, rfl⟩;have hKs := hide (hO.out.sl flat_iv);have hE0 : Hid (Own 3 ev (wK.alloc (.cells #[] 84)) wK.heap.size 84 (some ⟨wK.heap.size, 0, none⟩) 0 0 ([] : List Ed)) := Own.made (α := Ed) (size := 3) (f := ev) wK 84 zR;have hSe := hide (hS.out.alloc (.cells #[] 84));have hone := hide ((Only.refl b (b + 1) wK).alloc' (.cells #[] 84));have hTK := hide (hT.out.only hon.out (.inr (by have := hzr; have := hbl; omega)));have q4 := hide (pick_calls b _ (2 + 2 * (nb : Int)) (wK.alloc (.cells #[] 84)) hSe.out (by omega));clear hS;go_wp2_with fail;refine q4.out.mono ?_;rintro e w6 ⟨r0, rfl, r00, r01, hs6⟩;obtain ⟨r, rfl⟩ : ∃ r : Nat, r0 = (r : Int) := ⟨r0.toNat, by omega⟩;have hr9 : r ≤ 9 := by omega
   have hE6 := hide (hE0.out.keep (w' := w6) fun g e => hs6.only.block g (hE0.out.lt g e).2 (by have := (hE0.out.lt g e).1; omega));have hon6 := hide (hone.out.trans' hs6.only);replace hs6 := hide (hs6.src.more (show N + 14 + 2 * k + 2 ≤ N + 40 + 30 * (9 - r) by omega));clear q4 hE0 hSe hone r00 r01;go_wp2_with fail;obtain ⟨st, rfl⟩ : ∃ st, st = k := ⟨_, rfl⟩;obtain ⟨gk, ok, rfl, -⟩ := hKs.out.at_ (by omega);have hbK : b < wK.heap.size := by omega
   clear hlt k1 hk hO hlT
   go_loopw [8, 9] (fun v8 v9 wr => ∃ (r mm cc : Nat) (E : Option Addr) (es : List Ed), v9 = .int .i64 (r : Nat) ∧ r ≤ 9 ∧ v8 = .slice E mm cc ∧ mm ≤ 6 * (9 - r) ∧ Hid (Own 3 ev wr wK.heap.size 84 E mm cc es) ∧ Hid (EdD st n es) ∧ Hid (SrcW wr b (N + 40 + 30 * (9 - r))) ∧ Hid (Only b (b + 1) wK wr)) (fun _ v _ => (intOf v).toNat)
   case atStart => exact ⟨r, 0, 0, _, [], rfl, hr9, rfl, Nat.zero_le _, hE6.out, EdD.start _ _, hs6.out, hon6.out⟩
   case round =>
    clear hE6 hs6 hon6 hr9;obtain ⟨r, mm, cc, E, es, rfl, hr, rfl, hmm, hO, hEd, hS, hon6⟩ := hrel
    by_cases hpos : 0 < r
    ·have p1 : (0 : Int) < (r : Int) := by omega
     obtain ⟨NN, hNN⟩ : ∃ NN, N + 40 + 30 * (9 - r) = NN := ⟨_, rfl⟩;rw [hNN] at hS;have hNNb : NN ≤ N + 400 := by omega
     replace hNN := hide hNN;have q5 := hide (pick_calls b NN (nb : Int) wr hS.out (by omega));go_wp2_with fail;refine q5.out.mono ?_;rintro e w7 ⟨f, rfl, f0, f1, h7⟩;have q6 := hide (pick_calls b (NN + 2) (n : Int) w7 h7.src (by omega));replace h7 := hide h7;clear q5;go_wp2_with fail;refine q6.out.mono ?_;rintro e w8 ⟨lb, rfl, l0, l1, h8⟩;have q7 := hide (pick_calls b (NN + 2 + 2) (nb : Int) w8 h8.src (by omega));replace h8 := hide (h7.out.trans h8);clear q6 h7;go_wp2_with fail;refine q7.out.mono ?_;rintro e w9 ⟨t, rfl, t0, t1, h9⟩;obtain ⟨tn, rfl⟩ : ∃ tn : Nat, t = (tn : Int) := ⟨t.toNat, by omega⟩;replace h9 := h8.out.trans h9;have hO9 := hide (hO.out.keep (w' := w9) fun g e => h9.only.block g (hO.out.lt g e).2 (by have := (hO.out.lt g e).1; omega));have hon9 := hide (hon6.out.trans' h9.only);have hS9 := hide (h9.src.more (show NN + 2 + 2 + 2 ≤ NN + 6 + 2 * 0 by omega));have hlb : 0 ≤ lb ∧ lb < (n : Int) := by omega
     have htn : tn < nb := by omega
     clear q7 h8 h9 hO hS hon6 l0 l1 t0 t1 f0 f1;go_wp2_with fail
     go_loopw [8, 13] (fun v8 v13 wz => ∃ (j mm2 cc2 : Nat) (E2 : Option Addr) (es2 : List Ed), j ≤ st ∧ v13 = .int .i64 (j : Nat) ∧ v8 = .slice E2 mm2 cc2 ∧ mm2 ≤ mm + j ∧ Hid (Own 3 ev wz wK.heap.size 84 E2 mm2 cc2 es2) ∧ Hid (EdD st n es2) ∧ Hid (SrcW wz b (NN + 6 + 2 * j)) ∧ Hid (Only b (b + 1) wK wz)) (fun _ v _ => st - (intOf v).toNat)
     case atStart => exact ⟨0, mm, cc, E, es, Nat.zero_le _, rfl, rfl, zR, hO9.out, hEd.out, hS9.out, hon9.out⟩
     case round =>
      clear hO9 hS9 hon9 hEd;obtain ⟨j, mm2, cc2, E2, es2, hj, rfl, rfl, hmm2, hO, hEd, hS, hon6⟩ := hrel
      by_cases hlt : j < st
      ·have j0 : (0 : Int) ≤ (j : Int) := by omega
       have j1 : (j : Int) < (st : Int) := by omega
       obtain ⟨gk2, ok2, y, e1, -, -, -, hy, ck, -⟩ := SlI.get (hKs.out.only hon6.out (.inr (by omega))) hlt;cases e1;have hzO := hon6.out.size
       by_cases hyf : y = f
       ·obtain rfl : f = y := hyf.symm
        have g1 : (f == f) = true := by simp
        obtain ⟨wO, rfl⟩ : ∃ wO : World, wO = wr := ⟨_, rfl⟩;have hA0 : Hid (Own 1 iv (wO.alloc (.cells #[] 2)) wO.heap.size 2 (some ⟨wO.heap.size, 0, none⟩) 0 0 ([] : List Int)) := Own.made (α := Int) (size := 1) (f := iv) wO 2 zR;have hB0 := hide ((Below.refl wO.heap.size wO).alloc zR (.cells #[] 2));clear hy;go_wp2_with fail;clear ck
        go_loopw [14, 15] (fun v14 v15 wy => ∃ (i an ac : Nat) (AA : Option Addr) (la : List Int), i ≤ st ∧ v15 = .int .i64 (i : Nat) ∧ v14 = .slice AA an ac ∧ an ≤ i ∧ Hid (tn < i → 0 < an) ∧ Hid (Own 1 iv wy wO.heap.size 2 AA an ac la) ∧ Hid (∀ x, x ∈ la → 0 ≤ x ∧ x < (st : Int)) ∧ Hid (Below wO.heap.size wO wy)) (fun _ v _ => st - (intOf v).toNat)
        case atStart => exact ⟨0, 0, 0, _, [], Nat.zero_le _, rfl, rfl, zR, (fun h => absurd h (by omega)), hA0.out, (fun x h => absurd h List.not_mem_nil), hB0.out⟩
        case round =>
         clear hA0 hB0;obtain ⟨i, an, ac, AA, la, hi, rfl, rfl, han, hne, hA, hla, hB⟩ := hrel
         by_cases hil : i < st
         ·have i0 : (0 : Int) ≤ (i : Int) := by omega
          have i1 : (i : Int) < (st : Int) := by omega
          obtain ⟨gk2, ok2, y, e1, -, -, -, hy, ck, -⟩ := SlI.get ((hKs.out.only hon6.out (.inr (by omega))).below hB.out (.inl hzO)) hil;cases e1
          by_cases hyt : y = (tn : Int)
          ·obtain rfl : (tn : Int) = y := hyt.symm
           have g2 : ((tn : Int) == (tn : Int)) = true := by simp
           have hzy := hB.out.size;have hza : wO.heap.size ≤ (wr.alloc (.cells #[.int .i64 (i : Int)] 2)).heap.size := by rw [World.size_alloc]; omega
           have hOa := hide (hA.out.alloc (.cells #[.int .i64 (i : Int)] 2));have hBa := hide (hB.out.alloc hzy (.cells #[.int .i64 (i : Int)] 2));have hrow := hide (fun q (e : (Value.slice AA an ac).ownBlock = some q) => (hOa.out.lt q e).1);have hla2 : Hid (∀ x, x ∈ la ++ [(i : Int)] → 0 ≤ x ∧ x < (st : Int)) := fun x hx => by
            rcases List.mem_append.1 hx with h | h
            ·exact hla.out x h
            ·rw [List.mem_singleton.1 h]; omega
           clear hA hB hla hy hzy;go_wp2_with (first | (at_builtin; (with_reducible refine wpList_app rfl (.tmp 89) (.tmp 91) rfl hEi.out flat_iv rfl hOa.out rfl (Sl.lit1' wr 2 (i : Int) _ rfl 1 _ ?d0) ?d1 hza ?_); rotate_right; intro A6 c6 w6 hown6 hgr6 hb6 hat6))
           case d0 => rfl
           case d1 => omega
           have hB6 := hide (hBa.out.grown hgr6 (Nat.le_trans zR hBa.out.size) (fun q e => hrow.out q e));replace hown6 := hide hown6;clear hgr6 hb6 hat6 hOa hBa hrow ck;go_wp2_with fail;go_roundw
           case rel => exact ⟨i + 1, an + 1, c6, A6, _, by omega, by go_num, rfl, by omega, (fun _ => by omega), hown6.out, hla2.out, hB6.out⟩
           case measure => simp [intOf]; omega
          ·have g2 : (y == (tn : Int)) = false := by rw [beq_eq_false_iff_ne]; exact hyt
           have hne2 : Hid (tn < i + 1 → 0 < an) := fun h => by
            by_cases e : tn < i
            ·exact hne.out e
            ·obtain rfl : tn = i := by omega
             have := hK.out.1 tn htn (List.getElem?_eq_some_iff.1 hy).1;rw [hy] at this;injection this with this;exact absurd this hyt
           clear hy;go_wp2_with fail;clear ck;go_roundw
           case rel => exact ⟨i + 1, an, ac, AA, la, by omega, by go_num, rfl, by omega, hne2.out, hA.out, hla.out, hB.out⟩
           case measure => simp [intOf]; omega
         ·obtain rfl : i = st := by omega
          have i1 : ¬ (i : Int) < (i : Int) := by omega
          have hpa : 0 < an := hne.out (by omega);have hls := hide (hA.out.sl flat_iv);have hbO : b < wO.heap.size := by omega
          have hSy := hide (hS.out.below hB.out hbO);have q8 := hide (among_calls b (NN + 6 + 2 * j) AA an ac la wr _ _ hSy.out (by omega) hls.out (.inr (by omega)) hpa (by omega));have hzy := hB.out.size;go_wp2_with fail;refine q8.out.mono ?_;rintro e w10 ⟨x, rfl, hx, hs10⟩;have hxb := hla.out x hx;have hO10 := hide (hO.out.keep (w' := w10) fun g e => (hs10.only.block g (Nat.lt_of_lt_of_le (hO.out.lt g e).2 hzy) (by have := (hO.out.lt g e).1; omega)).trans (hB.out.block g (hO.out.lt g e).2));have hon10 := hide ((hon6.out.belowAt hB.out hzO).trans' hs10.only);have hS10 := hide (hs10.src);have hz10 := hon10.out.size;have hza : wK.heap.size ≤ (w10.alloc (.cells #[.int .i64 (j : Int), .int .i64 lb, .int .i64 x] 84)).heap.size := by rw [World.size_alloc]; omega
          have hOa := hide (hO10.out.alloc (.cells #[.int .i64 (j : Int), .int .i64 lb, .int .i64 x] 84));have hSa := hide (hS10.out.alloc (.cells #[.int .i64 (j : Int), .int .i64 lb, .int .i64 x] 84));have hona := hide (hon10.out.alloc' (.cells #[.int .i64 (j : Int), .int .i64 lb, .int .i64 x] 84));have hrow := hide (fun q (e : (Value.slice E2 mm2 cc2).ownBlock = some q) => (hOa.out.lt q e).1);have hEd2 := hide (hEd.out.app (f := (j : Int)) (l := lb) (t := x) (by omega) hlb hxb);clear hO hS hon6 hA hB hla hls hSy q8 hs10 hO10 hon10 hS10 hx hxb hne hz10 hzy;go_wp2_with (first | (at_builtin; (with_reducible refine wpList_app rfl (.tmp 93) (.tmp 100) rfl hEe.out flat_ev rfl hOa.out rfl (Sl.lit1' w10 84 ((j : Int), lb, x) _ rfl 3 _ ?d0) ?d1 hza ?_); rotate_right; intro A6 c6 w6 hown6 hgr6 hb6 hat6))
          case d0 => rfl
          case d1 => omega
          have hS6 := hide ((hSa.out.grow hgr6 (fun q e => by have := hrow.out q e; omega)).more (show NN + 6 + 2 * j + 2 ≤ NN + 6 + 2 * (j + 1) by omega));have hon6 := hide (hona.out.grow hgr6 (fun q e => hrow.out q e));replace hown6 := hide hown6;clear hgr6 hb6 hat6 hOa hSa hona hrow;go_wp2_with fail;go_roundw
          case rel => exact ⟨j + 1, mm2 + 1, c6, A6, _, by omega, by go_num, rfl, by omega, hown6.out, hEd2.out, hS6.out, hon6.out⟩
          case measure => simp [intOf]; omega
       ·have g1 : (y == f) = false := by rw [beq_eq_false_iff_ne]; exact hyf
        have hS2 := hide (hS.out.more (show NN + 6 + 2 * j ≤ NN + 6 + 2 * (j + 1) by omega));clear hy;go_wp2_with fail;clear ck;go_roundw
        case rel => exact ⟨j + 1, mm2, cc2, E2, es2, by omega, by go_num, rfl, by omega, hO.out, hEd.out, hS2.out, hon6.out⟩
        case measure => simp [intOf]; omega
      ·obtain rfl : j = st := by omega
       have j1 : ¬ (j : Int) < (j : Int) := by omega
       obtain ⟨r2, rfl⟩ : ∃ r2, r = r2 + 1 := ⟨r - 1, by omega⟩;have hS2 := hide (hS.out.more (show NN + 6 + 2 * j ≤ N + 40 + 30 * (9 - r2) by have := hNN.out; omega));go_wp2_with fail;go_roundw
       case rel => exact ⟨r2, mm2, cc2, E2, es2, by go_num, by omega, rfl, by omega, hO.out, hEd.out, hS2.out, hon6.out⟩
       case measure => simp [intOf]
    ·obtain rfl : r = 0 := by omega
     have p1 : ¬ (0 : Int) < ((0 : Nat) : Int) := by omega
     have q9 := hide (one_calls b _ 3 wr hS.out (by omega));obtain ⟨wL, rfl⟩ : ∃ wL : World, wL = wr := ⟨_, rfl⟩;have hzL := hon6.out.size;go_upto_if 103 with (first | (go_at_call 92; (with_reducible refine q9.out.mono ?_); rintro e w5 ⟨yes, rfl, hs5⟩; replace hs5 := hide hs5))
     go_cut [8] (fun v8 wx => ∃ (mm2 cc2 : Nat) (E2 : Option Addr) (es2 : List Ed), v8 = .slice E2 mm2 cc2 ∧ mm2 ≤ 55 ∧ Hid (Own 3 ev wx wK.heap.size 84 E2 mm2 cc2 es2) ∧ Hid (EdD st n es2) ∧ Hid (SrcW wx b (N + 400)) ∧ Hid (Only b (b + 1) wK wx))
     case first =>
      have hO5 := hide (hO.out.keep (w' := w5) fun g e => hs5.out.only.block g (hO.out.lt g e).2 (by have := (hO.out.lt g e).1; omega));have hon5 := hide (hon6.out.trans' hs5.out.only)
      cases yes with
      | false =>
       have hS5 := hide (hs5.out.src.more (show N + 40 + 30 * (9 - 0) + 2 ≤ N + 400 by omega));go_wp2_with fail;go_meet;exact ⟨mm, cc, E, es, rfl, by omega, hO5.out, hEd.out, hS5.out, hon5.out⟩
      | true =>
       have r1 := hide (pick_calls b _ (st : Int) w5 hs5.out.src (by omega));clear hs5 q9;go_wp2_with fail;refine r1.out.mono ?_;rintro e w6 ⟨f, rfl, f0, f1, h6⟩;have r2 := hide (pick_calls b _ (n : Int) w6 h6.src (by omega));replace h6 := hide h6;clear r1;go_wp2_with fail;refine r2.out.mono ?_;rintro e w7 ⟨lb, rfl, l0, l1, h7⟩;have r3 := hide (pick_calls b _ (st : Int) w7 h7.src (by omega));replace h7 := hide (h6.out.trans h7);clear r2 h6;go_wp2_with fail;refine r3.out.mono ?_;rintro e w8 ⟨t, rfl, t0, t1, h8⟩;replace h8 := h7.out.trans h8;have hO8 := hide (hO5.out.keep (w' := w8) fun g e => h8.only.block g (hO5.out.lt g e).2 (by have := (hO5.out.lt g e).1; omega));have hon8 := hide (hon5.out.trans' h8.only);have hS8 := hide (h8.src.more (show N + 40 + 30 * (9 - 0) + 2 + 2 + 2 + 2 ≤ N + 400 by omega));have hz8 := hon8.out.size;have hza : wK.heap.size ≤ (w8.alloc (.cells #[.int .i64 f, .int .i64 lb, .int .i64 t] 84)).heap.size := by rw [World.size_alloc]; omega
       have hOa := hide (hO8.out.alloc (.cells #[.int .i64 f, .int .i64 lb, .int .i64 t] 84));have hSa := hide (hS8.out.alloc (.cells #[.int .i64 f, .int .i64 lb, .int .i64 t] 84));have hona := hide (hon8.out.alloc' (.cells #[.int .i64 f, .int .i64 lb, .int .i64 t] 84));have hrow := hide (fun q (e : (Value.slice E mm cc).ownBlock = some q) => (hOa.out.lt q e).1);have hEd2 := hide (hEd.out.app (f := f) (l := lb) (t := t) (by omega) (by omega) (by omega));clear r3 h7 h8 hO5 hon5 hO8 hon8 hS8 hz8 hO f0 f1 l0 l1 t0 t1;go_wp2_with (first | (at_builtin; (with_reducible refine wpList_app rfl (.tmp 104) (.tmp 116) rfl hEe.out flat_ev rfl hOa.out rfl (Sl.lit1' w8 84 (f, lb, t) _ rfl 3 _ ?d0) ?d1 hza ?_); rotate_right; intro A6 c6 w9 hown6 hgr6 hb6 hat6))
       case d0 => rfl
       case d1 => omega
       have hS6 := hide (hSa.out.grow hgr6 (fun q e => by have := hrow.out q e; omega));have hon9 := hide (hona.out.grow hgr6 (fun q e => hrow.out q e));replace hown6 := hide hown6;clear hgr6 hb6 hat6 hOa hSa hona hrow;go_meet;exact ⟨mm + 1, c6, A6, _, rfl, by omega, hown6.out, hEd2.out, hS6.out, hon9.out⟩
     case rest =>
      clear hO hEd hS hon6 q9;obtain ⟨mm2, cc2, E2, es2, rfl, hmm2, hO, hEd, hS, honC⟩ := hcut;have r1 := hide (pick_calls b _ (st : Int) wc hS.out (by omega));have hzC := honC.out.size;go_wp2_with fail;refine r1.out.mono ?_;rintro e w6 ⟨ini, rfl, i0, i1, h6⟩;obtain ⟨ini, rfl⟩ : ∃ k : Nat, ini = (k : Int) := ⟨ini.toNat, by omega⟩;have hini : ini < st := by omega
      have hon6 := hide (honC.out.trans' h6.only);have hz6 := h6.size;have hO6 := hO.out.keep (w' := w6) fun g e => h6.only.block g (hO.out.lt g e).2 (by have := (hO.out.lt g e).1; omega)
      have hmm := hO6.len;have r2 := hide (l11Make_calls (st : Int) (ini : Int) A n c ts E2 mm2 cc2 es2 w6 ((hTK.out.only hon6.out (.inr (by omega))).more (Nat.zero_le _) (by omega)) ((hO6.sl flat_ev).more (Nat.zero_le _) zR) (fun e he => (hEd.out e he).2.1) (by omega) (by omega));replace h6 := hide h6;clear r1 hO hS hO6 i0 i1;go_wp2_with fail;refine r2.out.mono ?_;rintro e w7 ⟨A2, n2, c2, B2, m2, d2, es3, rfl, hA2, hB2, hM, hb7⟩;have hF := hide (((hon30.out.trans' hon.out).trans' hon6.out).belowAt hb7 (by have := hz2.out; omega));have h8 : w7.heap[w.heap.size]? = _ := (hF.out.block w.heap.size hz0 (by omega)).trans k8.out;have a0 : w7.cell? ⟨w.heap.size, 0, none⟩ = some (.int .i64 0) := cR 0 h8;have a1 : w7.cell? ⟨w.heap.size, 1, none⟩ = some (.int .i64 0) := cR 1 h8;have a2 : w7.cell? ⟨w.heap.size, 2, none⟩ = some (.slice none 0 0) := cR 2 h8;have a3 : w7.cell? ⟨w.heap.size, 3, none⟩ = some (.slice none 0 0) := cR 3 h8;have z0 : w7.frozen? ⟨w.heap.size, 0, none⟩ = false := frozen_of_row _ _ 0 _ _ h8;have z1 : w7.frozen? ⟨w.heap.size, 1, none⟩ = false := frozen_of_row _ _ 1 _ _ h8;have z2 : w7.frozen? ⟨w.heap.size, 2, none⟩ = false := frozen_of_row _ _ 2 _ _ h8;have z3 : w7.frozen? ⟨w.heap.size, 3, none⟩ = false := frozen_of_row _ _ 3 _ _ h8;have hS7 := hide (h6.out.src.below hb7 (by omega));have hz7 := hb7.size;have hlA := hA2.len;have hlj := joi_len ts;have hlT : ts.length = n := hTK.out.len;replace hA2 := hide hA2;replace hB2 := hide hB2;replace hM := hide hM;replace h8 := hide h8;clear r2 hb7;go_wp2_with fail
      (try simp only [Exit.inBlock, Exit.then])
      refine bodyPost_ret_by (v := .agg #[.int .i64 (st : Int), .int .i64 (ini : Int), .slice A2 n2 c2, .slice B2 m2 d2]) ?_ rfl ?_
      focus
       rw [results_cell1 rfl];go_simp
      change DrawnG 6 60 1000 b N w _ (put4 w7 w.heap.size _ _ _ _)
      have hw2 : w.heap.size < w2.heap.size := by have := hz2.out; omega
      have hZs := put4_size w7 w.heap.size (.int .i64 (st : Int)) (.int .i64 (ini : Int)) (.slice A2 n2 c2) (.slice B2 m2 d2);have hmade : ltsV ((st : Int), (ini : Int), joiF ts, es3) = true := made_valid (by omega) (by omega) (fun x hx => (hD.out x hx).imp id fun h => (nm5_lab x h).1) (by omega) (by omega) (fun e he => ⟨(hEd.out e he).1, (hEd.out e he).2.2⟩) hM.out;refine ⟨st, ini, A2, n2, c2, B2, m2, d2, ts, es3, rfl, ?_, ?_, hmade, by omega, by have := hM.out.2.1; omega, by omega, hD.out, ?_, ?_⟩
      ·exact (Sl.keep hA2.out (by omega) fun q h1 h2 h3 => put4_other _ _ _ _ _ _ (by omega)).more (by omega) (by omega)
      ·exact (Sl.keep hB2.out (by omega) fun q h1 h2 h3 => put4_other _ _ _ _ _ _ (by omega)).more (by omega) (by omega)
      ·exact (hS7.out.keep (by omega) fun q hq => put4_other _ _ _ _ _ _ (by omega)).more (by omega)
      ·exact put4_only (hon0.out.trans' hF.out) zR _ _ _ _
end Go.Proofs.YtnhomkmfbngmgaaGreatDoor
namespace Go.Proofs.YtnhomkmfbngmgaaGreatDoor
open Go
section
variable {P : Program} {ops : Array Oper} {Q : Exit → Act → World → Prop} {md : Region.Mode} {S : World → Prop} {st : Nat}
def lateT (P : Program) (md : Region.Mode) (ops : Array Oper) (Q : Exit → Act → World → Prop) (S : World → Prop) (st : Nat) : Nat → Array Bool → Act → World → Prop
 | 0, got, a, w => Region.ready md ops got = [] ∧ Q .normal a w
 | m + 1, got, a, w => (Region.ready md ops got = [] → Q .normal a w) ∧
  ∀ i ∈ Region.ready md ops got, wpOp P ops Q i (fun a' w' => (i ≠ st → S w') ∧ lateT P md ops Q S st m (got.setIfInBounds i true) a' w') a w
theorem lateT.any : ∀ (m : Nat) (got : Array Bool) (a : Act) (w : World), lateT P md ops Q S st m got a w → wpAny P md ops Q m got a w
 | 0, _, _, _, h => h
 | m + 1, got, _, _, h => ⟨h.1, fun i hi => wpOp_mono (fun a' w' k => lateT.any m _ a' w' k.2) (h.2 i hi)⟩
def chainW (md : Region.Mode) (ops : Array Oper) : Nat → List Nat → Bool
 | _, [] => true
 | i, d :: ds => Region.waitsFor md ops d i && chainW md ops d ds
def openW (got : Array Bool) (ds : List Nat) : Bool := ds.all fun d => !got.getD d true
theorem openW_mem {got : Array Bool} {ds : List Nat} (h : openW got ds = true) {d : Nat} (hd : d ∈ ds) : got.getD d true = false := by
 unfold openW at h;have := List.all_eq_true.1 h d hd
 simpa using this
theorem chainW_shut {got : Array Bool} : ∀ (ds : List Nat) (i : Nat), chainW md ops i ds = true → got.getD i true = false → openW got ds = true → ∀ d ∈ ds, d ∉ Region.ready md ops got
 | [], _, _, _, _, d, hd => by cases hd
 | e :: ds, i, h, hi, ho, d, hd => by
  unfold chainW at h;rw [Bool.and_eq_true] at h;have he : got.getD e true = false := openW_mem ho (by simp)
  rcases List.mem_cons.1 hd with rfl | hd
  ·intro hr
   obtain ⟨oj, h1, x, hx, hb, hon⟩ := Region.waitsFor_spec h.1;obtain ⟨-, o, h2, h3⟩ := mem_ready.1 hr;rw [h1] at h2;obtain rfl := Option.some.inj h2;have := h3 x hx hb;rw [hon, getD_both hi] at this
   cases this
  ·exact chainW_shut ds e h.2 he (by unfold openW at ho ⊢; rw [List.all_cons, Bool.and_eq_true] at ho; exact ho.2) d hd
theorem lateT_first {i : Nat} {oi : Oper} {v : Value} {ds : List Nat} (hi : ops[i]? = some oi) (hsel : Region.noSelect ops = true) (hc : chainW md ops i ds = true) (hst : st ∈ ds)
  (hQ : ∀ c a w, Q (.panic c) (a.put oi.dst v) w → Q (.panic c) a w) : ∀ (m : Nat) (got : Array Bool) (a : Act) (w : World),
   (∀ j oj, ops[j]? = some oj → j ≠ i → got.getD j true = false → (∀ e ∈ oj.after, Region.binds md e = true → e.on ≠ i) → oi.apart ops oj = true) →
   i ∈ Region.ready md ops got → openW got ds = true → YieldsIf P ops S oi v a → S w →
   lateT P md ops Q S st m (got.setIfInBounds i true) (a.put oi.dst v) w → lateT P md ops Q S st (m + 1) got a w
 | 0, got, a, w, _, hr, _, hy, hS, H => by
  refine ⟨fun h => (by rw [h] at hr; cases hr), fun j hj => ?_⟩
  by_cases hji : j = i
  ·subst hji; exact hy.wpOp hi hS ⟨fun _ => hS, H⟩
  ·have := ready_mono hj hji
   rw [H.1] at this
   cases this
 | m + 1, got, a, w, hfree, hr, ho, hy, hS, H => by
  refine ⟨fun h => (by rw [h] at hr; cases hr), fun j hj => ?_⟩
  by_cases hji : j = i
  ·subst hji; exact hy.wpOp hi hS ⟨fun _ => hS, H⟩
  ·have h1 := H.2 j (ready_mono hj hji)
   obtain ⟨hjun, oj, hoj, hall⟩ := mem_ready.1 hj;have hi0 := (mem_ready.1 hr).1;have hjd : j ∉ ds := fun hm => chainW_shut ds i hc hi0 ho j hm hj
   have hjst : j ≠ st := fun e => hjd (e ▸ hst)
   have hnot : ∀ e ∈ oj.after, Region.binds md e = true → e.on ≠ i := fun e he hb heq => by
    have h2 := hall e he hb;rw [heq, getD_both hi0] at h2
    cases h2
   have h2 := wpOp_putIf hoj (hfree j oj hoj hji hjun hnot) (fun cs b => Region.noSelect_spec hsel i oi cs b hi) (fun cs b => Region.noSelect_spec hsel j oj cs b hoj) hQ hy h1;refine wpOp_mono (fun a' w' h3 => ⟨h3.2.1, lateT_first hi hsel hc hst hQ m (got.setIfInBounds j true) a' w' (fun k ok hk hki hun hno => ?_) (ready_mono hr (Ne.symm hji)) ?_ h3.1 (h3.2.1 hjst) ?_⟩) h2
   ·refine hfree k ok hk hki ?_ hno
    by_cases hjk : j = k
    ·subst hjk; exact hjun
    ·rw [getD_set_ne true hjk] at hun; exact hun
   ·unfold openW
    rw [List.all_eq_true];intro d hd;rw [getD_set_ne true (fun e : j = d => hjd (by rw [e]; exact hd)), openW_mem ho hd]
    rfl
   ·rw [Array.setIfInBounds_comm _ _ hji]
    exact h3.2.2
theorem lateT_take {i : Nat} {oi : Oper} {v : Value} {m : Nat} {got : Array Bool} {a : Act} {w : World} (ds : List Nat) (hi : ops[i]? = some oi) (hsel : Region.noSelect ops = true) (hf : Region.free md ops got i = true)
  (hr : (Region.ready md ops got).contains i = true) (hc : (chainW md ops i ds && openW got ds && ds.contains st) = true) (hQ : ∀ c a w, Q (.panic c) (a.put oi.dst v) w → Q (.panic c) a w) (hy : YieldsIf P ops S oi v a) (hS : S w)
  (h : lateT P md ops Q S st m (got.setIfInBounds i true) (a.put oi.dst v) w) : lateT P md ops Q S st (m + 1) got a w := by
 rw [Bool.and_eq_true, Bool.and_eq_true] at hc;exact lateT_first hi hsel hc.1.1 (by simpa using hc.2) hQ m got a w (Region.free_spec hi hf) (by simpa using hr) hc.1.2 hy hS h
theorem lateT_step {i : Nat} {o : Oper} {m : Nat} {got : Array Bool} {a : Act} {w : World} (hr : Region.ready md ops got = [i]) (ho : ops[i]? = some o)
  (h : ∀ K : Act → World → Prop, Shut (∀ a w, (i ≠ st → S w) → lateT P md ops Q S st m (got.setIfInBounds i true) a w → K a w) → if Region.wanted o (yielded ops a.tmps) = true then Oper.wp P o a w K Q else K (a.put o.dst undef) w) : lateT P md ops Q S st (m + 1) got a w := by
 refine ⟨fun h0 => (by rw [hr] at h0; cases h0), fun j hj => ?_⟩;rw [hr] at hj;obtain rfl := List.mem_singleton.1 hj;exact wpOp_step ho fun K hK => h K fun a w hS hl => hK a w ⟨hS, hl⟩
theorem sB {α : Type _} {x : α} {xs : List α} {a : α} : (x :: xs).set 0 a = a :: xs := rfl
theorem sC {α : Type _} {x : α} {xs : List α} {i : Nat} {a : α} : (x :: xs).set (i + 1) a = x :: xs.set i a := rfl
theorem sA {α : Type _} {l : List α} {i : Nat} {a : α} : l.toArray.setIfInBounds i a = (l.set i a).toArray := by rw [List.setIfInBounds_toArray]
theorem tkA (v : Value) (i : Nat) {oi : Oper} {m : Nat} {got : Array Bool} {a a' : Act} {w : World} (ds : List Nat) (hi : ops[i]? = some oi) (hy : YieldsIf P ops S oi v a) (hS : S w)
  (h : lateT P md ops Q S st m (got.setIfInBounds i true) a' w) (ha : a.put oi.dst v = a' := by first | (simp only [Act.put, sA, sB, sC]; rfl) | simp only [Act.put, sA, sB, sC] | rfl) (hsel : Region.noSelect ops = true := by kernel_rfl) (hf : Region.free md ops got i = true := by kernel_rfl)
  (hr : (Region.ready md ops got).contains i = true := by kernel_rfl) (hc : (chainW md ops i ds && openW got ds && ds.contains st) = true := by kernel_rfl) (hQ : ∀ c a w, Q (.panic c) (a.put oi.dst v) w → Q (.panic c) a w := by exact fun _ _ _ h => h) : lateT P md ops Q S st (m + 1) got a w := lateT_take ds hi hsel hf hr hc hQ hy hS (ha ▸ h)
theorem tkB (i : Nat) {v : Value} {oi : Oper} {m : Nat} {got : Array Bool} {a a' : Act} {w : World} (ds : List Nat) (hS : S w) (h : lateT P md ops Q S st m (got.setIfInBounds i true) a' w) (hi : ops[i]? = some oi := by rfl)
  (hy : YieldsIf P ops S oi v a := by (refine Or.inl ⟨by rfl, ?_⟩; intro w hSw; (try dsimp only at hSw); go_simp <;> with_reducible rfl)) (ha : a.put oi.dst v = a' := by first | (simp only [Act.put, sA, sB, sC]; rfl) | simp only [Act.put, sA, sB, sC] | rfl) (hsel : Region.noSelect ops = true := by kernel_rfl) (hf : Region.free md ops got i = true := by kernel_rfl)
  (hr : (Region.ready md ops got).contains i = true := by kernel_rfl) (hc : (chainW md ops i ds && openW got ds && ds.contains st) = true := by kernel_rfl) (hQ : ∀ c a w, Q (.panic c) (a.put oi.dst v) w → Q (.panic c) a w := by exact fun _ _ _ h => h) : lateT P md ops Q S st (m + 1) got a w := lateT_take ds hi hsel hf hr hc hQ hy hS (ha ▸ h)
theorem tkD (i : Nat) {v : Value} {oi : Oper} {m : Nat} {got : Array Bool} {a a' : Act} {w : World} (ds : List Nat) (hS : S w) (h : lateT P md ops Q S st m (got.setIfInBounds i true) a' w) (hi : ops[i]? = some oi := by rfl)
  (hy : YieldsIf P ops S oi v a := by (refine Or.inl ⟨by kernel_rfl, ?_⟩; intro w hSw; (try dsimp only at hSw); go_simp <;> with_reducible rfl)) (ha : a.put oi.dst v = a' := by first | (simp only [Act.put, sA, sB, sC]; rfl) | simp only [Act.put, sA, sB, sC] | rfl) (hsel : Region.noSelect ops = true := by kernel_rfl) (hf : Region.free md ops got i = true := by kernel_rfl)
  (hr : (Region.ready md ops got).contains i = true := by kernel_rfl) (hc : (chainW md ops i ds && openW got ds && ds.contains st) = true := by kernel_rfl) (hQ : ∀ c a w, Q (.panic c) (a.put oi.dst v) w → Q (.panic c) a w := by exact fun _ _ _ h => h) : lateT P md ops Q S st (m + 1) got a w := lateT_take ds hi hsel hf hr hc hQ hy hS (ha ▸ h)
theorem lS (i : Nat) {o : Oper} {m : Nat} {got : Array Bool} {a : Act} {w : World}
  (h : ∀ K : Act → World → Prop, Shut (∀ a w, (i ≠ st → S w) → lateT P md ops Q S st m (got.setIfInBounds i true) a w → K a w) → if Region.wanted o (yielded ops a.tmps) = true then Oper.wp P o a w K Q else K (a.put o.dst undef) w) (hr : Region.ready md ops got = [i] := by kernel_rfl) (ho : ops[i]? = some o := by rfl) : lateT P md ops Q S st (m + 1) got a w := lateT_step hr ho h
theorem tkC (i : Nat) {oi : Oper} {m : Nat} {got : Array Bool} {a a' : Act} {w : World} (ds : List Nat) (hS : S w) (h : lateT P md ops Q S st m (got.setIfInBounds i true) a' w) (hi : ops[i]? = some oi := by rfl)
  (hy : YieldsIf P ops S oi undef a := by exact Or.inr ⟨by kernel_rfl, rfl⟩) (ha : a.put oi.dst undef = a' := by first | (simp only [Act.put, sA, sB, sC]; rfl) | simp only [Act.put, sA, sB, sC] | rfl) (hsel : Region.noSelect ops = true := by kernel_rfl) (hf : Region.free md ops got i = true := by kernel_rfl)
  (hr : (Region.ready md ops got).contains i = true := by kernel_rfl) (hc : (chainW md ops i ds && openW got ds && ds.contains st) = true := by kernel_rfl) (hQ : ∀ c a w, Q (.panic c) (a.put oi.dst undef) w → Q (.panic c) a w := by exact fun _ _ _ h => h) : lateT P md ops Q S st (m + 1) got a w := lateT_take ds hi hsel hf hr hc hQ hy hS (ha ▸ h)
theorem kP {i m : Nat} {g : Array Bool} {K : Act → World → Prop} (hK : Shut (∀ a w, (i ≠ st → S w) → lateT P md ops Q S st m g a w → K a w)) {a a' : Act} {w : World} (hS : i ≠ st → S w) (h : lateT P md ops Q S st m g a' w) (ha : a = a' := by first | (simp only [Act.put, sA, sB, sC]; rfl) | simp only [Act.put, sA, sB, sC] | rfl) : K a w := hK.out _ _ hS (ha ▸ h)
theorem lateT_done {got : Array Bool} {a : Act} {w : World} (hr : Region.ready md ops got = []) (h : Q .normal a w) : ∀ m, lateT P md ops Q S st m got a w
 | 0 => ⟨hr, h⟩
 | _ + 1 => ⟨fun _ => h, by rw [hr]; simp⟩
theorem lateT_begin {id : Nat} {a : Act} {w : World} (hm : P.follows .mixedOrders = true) (h : lateT P .any ops Q S st ops.size (Array.replicate ops.size false) a w.drew) : (Code.region id ops true).wp P Q a w :=
 wp_region_any hm (lateT.any _ _ _ _ h)
end
end Go.Proofs.YtnhomkmfbngmgaaGreatDoor
namespace Go.Proofs.YtnhomkmfbngmgaaGreatDoor
open Go.ChangeShapes Go.WideShapes Go.ChangeAt Go.RowKit
def LtsBox (w : World) (g : Nat) (st ini : Int) (A : Option Addr) (n c : Nat) (B : Option Addr) (m d : Nat) : Prop := w.heap[g]? = some (.cells #[.int .i64 st, .int .i64 ini, .slice A n c, .slice B m d] 27 (0, 0))
section
variable {w : World} {g : Nat} {st ini : Int} {A : Option Addr} {n c : Nat} {B : Option Addr} {m d : Nat} (h : LtsBox w g st ini A n c B m d)
include h
theorem LtsBox.c0 : w.cell? ⟨g, 0, none⟩ = some (.int .i64 st) := cR 0 h
theorem LtsBox.c1 : w.cell? ⟨g, 1, none⟩ = some (.int .i64 ini) := cR 1 h
theorem LtsBox.c2 : w.cell? ⟨g, 2, none⟩ = some (.slice A n c) := cR 2 h
theorem LtsBox.c3 : w.cell? ⟨g, 3, none⟩ = some (.slice B m d) := cR 3 h
theorem LtsBox.f0 : w.frozen? ⟨g, 0, none⟩ = false := frozen_of_row _ _ 0 _ _ h
theorem LtsBox.f1 : w.frozen? ⟨g, 1, none⟩ = false := frozen_of_row _ _ 1 _ _ h
theorem LtsBox.f2 : w.frozen? ⟨g, 2, none⟩ = false := frozen_of_row _ _ 2 _ _ h
theorem LtsBox.f3 : w.frozen? ⟨g, 3, none⟩ = false := frozen_of_row _ _ 3 _ _ h
theorem LtsBox.lt : g < w.heap.size := (Array.getElem?_eq_some_iff.1 h).1
theorem LtsBox.only {lo hi : Nat} {w' : World} (g2 : Only lo hi w w') (hd : g < lo ∨ hi ≤ g) : LtsBox w' g st ini A n c B m d := (g2.block g h.lt hd).trans h
theorem LtsBox.below {K : Nat} {w' : World} (g2 : Below K w w') (hd : g < K) : LtsBox w' g st ini A n c B m d := (g2.block g hd).trans h
end
theorem ltsV_edge {st ini : Int} {ls : List ByteArray} {es : List Ed} (h : ltsV (st, ini, ls, es) = true) : (∀ e, e ∈ es → (0 ≤ e.1 ∧ e.1 < st) ∧ (0 ≤ e.2.1 ∧ e.2.1 < (ls.length : Int)) ∧ 0 ≤ e.2.2 ∧ e.2.2 < st) ∧ (1 ≤ st ∧ st ≤ 40) ∧ (0 ≤ ini ∧ ini < st) := by
 rw [ltsV_eq] at h;simp only [Bool.and_eq_true, decide_eq_true_eq] at h;obtain ⟨⟨h1, h2, h3, h4⟩, h5⟩ := h;have h1 := inB_true.1 h1;have h2 := inB_true.1 h2;refine ⟨fun e he => ?_, by omega, by omega⟩;obtain ⟨k, hk⟩ := List.getElem?_of_mem he;have hkl := (List.getElem?_eq_some_iff.1 hk).1;obtain ⟨f, lb, t⟩ := e;have hok := allK_get h5 hkl;have key : ∀ {b : Bool}, ((inB f 0 (st - 1) && (inB t 0 (st - 1) && inB lb 0 ((ls.length : Int) - 1))) && b) = true → (0 ≤ f ∧ f < st) ∧ (0 ≤ lb ∧ lb < (ls.length : Int)) ∧ 0 ≤ t ∧ t < st := fun h => by
  simp only [Bool.and_eq_true] at h;obtain ⟨⟨g1, g2, g3⟩, _⟩ := h;have g1 := inB_true.1 g1;have g2 := inB_true.1 g2;have g3 := inB_true.1 g3;omega
 by_cases k0 : k = 0
 ·subst k0
  rw [okE_zero hk] at hok;exact key (b := true) (by rw [Bool.and_true]; exact hok)
 ·obtain ⟨r, hr⟩ : ∃ r, es[k - 1]? = some r := ⟨_, List.getElem?_eq_getElem (by omega)⟩
  rw [okE_at hk (by omega) hr] at hok;exact key hok
theorem l15DrawOk_calls (b N : Nat) (w : World) (h : SrcW w b N) (hN : N ≤ 600000000) :
  Calls Tryz.prog 49 #[.pointer (some ⟨b, 0, none⟩)] w (DrawnG 7 64 2000 b N w) := by
 have hEe := hide elem_edge;have hbl := h.lt;have hon0 := (Only.refl b (b + 1) w).alloc' (.cells #[.int .i64 0, .int .i64 0, .slice none 0 0, .slice none 0 0] 27);have k8 := heap_alloc_new w (.cells #[.int .i64 0, .int .i64 0, .slice none 0 0, .slice none 0 0] 27);have hS0 := h.alloc (.cells #[.int .i64 0, .int .i64 0, .slice none 0 0, .slice none 0 0] 27);have hz0 : w.heap.size < (w.alloc (.cells #[.int .i64 0, .int .i64 0, .slice none 0 0, .slice none 0 0] 27)).heap.size := by simp
 obtain ⟨wA, hwA⟩ : ∃ wA, wA = w.alloc (.cells #[.int .i64 0, .int .i64 0, .slice none 0 0, .slice none 0 0] 27) := ⟨_, rfl⟩;rw [← hwA] at hon0 k8 hS0 hz0;have q1 := hide (l11DrawOk_calls b N wA hS0 (by omega));replace hon0 := hide hon0;replace k8 := hide k8;clear h hS0;go_enter Tryz.func49, Tryz.ntmps49;go_upto_region 1 with fail;rw [← hwA];replace hwA := hide hwA;go_wp2_with fail;refine q1.out.mono ?_;rintro e w1 ⟨st, ini, A, n, c, B, m, d, ts, es, rfl, hA1, hB1, hv, hst7, hm60, hn6, hD, hs1, hon1⟩;obtain ⟨hed, hst40, hini⟩ := ltsV_edge hv;have hlA := hA1.len;have hlB := hB1.len;rw [hlA] at hed;have hnpos : 0 < n := by have := (List.getElem?_eq_some_iff.1 (joi_head ts)).1; omega
 replace hed := hide hed;have hbl1 : b < w1.heap.size := hs1.lt;have hbw1 := (Below.refl w1.heap.size w1).alloc zR (.cells #[.int .i64 (st : Int), .int .i64 (ini : Int), .slice A n c, .slice B m d] 27);have hbox := heap_alloc_new w1 (.cells #[.int .i64 (st : Int), .int .i64 (ini : Int), .slice A n c, .slice B m d] 27);have hz2 : w1.heap.size + 1 = (w1.alloc (.cells #[.int .i64 (st : Int), .int .i64 (ini : Int), .slice A n c, .slice B m d] 27)).heap.size := by simp
 obtain ⟨w2, hw2⟩ : ∃ w2, w2 = w1.alloc (.cells #[.int .i64 (st : Int), .int .i64 (ini : Int), .slice A n c, .slice B m d] 27) := ⟨_, rfl⟩;rw [← hw2] at hbw1 hbox hz2;have hz12 : w1.heap.size < w2.heap.size := by omega
 have hbox2 : Hid (LtsBox w2 w1.heap.size (st : Int) (ini : Int) A n c B m d) := hbox;have hA2 := hide (hA1.below hbw1 (.inl zR));have hB2 := hide (hB1.below hbw1 (.inl zR));have hs2 := hs1.below hbw1 hbl1;have hon2 := hide (hon1.belowAt hbw1 hon1.size);have hE0 : Hid (Own 3 ev (w2.alloc (.cells #[] 84)) w2.heap.size 84 (some ⟨w2.heap.size, 0, none⟩) 0 0 ([] : List Ed)) := Own.made (α := Ed) (size := 3) (f := ev) w2 84 zR;have hs3 := hide (hs2.alloc (.cells #[] 84));have hon3 := hide ((Only.refl b (b + 1) w2).alloc' (.cells #[] 84));have hbl2 : b < w2.heap.size := by omega
 have hz1 : wA.heap.size ≤ w1.heap.size := hon1.size;replace hz2 := hide hz2;replace hv := hide hv;replace hD := hide hD;obtain ⟨hst1, -⟩ := hst40;obtain ⟨hini0, hini1⟩ := hini;clear q1 hA1 hB1 hs1 hs2 hon1 hbox hbw1;go_upto_region 2 with fail;rw [← hw2];replace hw2 := hide hw2;go_wp2_with fail
 go_loopw [4, 5] (fun v4 v5 wr => ∃ (k cc : Nat) (E : Option Addr) (es1 : List Ed), k ≤ m ∧ v5 = .int .i64 (k : Nat) ∧ v4 = .slice E k cc ∧ Hid (Own 3 ev wr w2.heap.size 84 E k cc es1) ∧ Hid (EdD st n es1) ∧ Hid (SrcW wr b (N + 1000 + 2 * k)) ∧ Hid (Only b (b + 1) w2 wr)) (fun _ v _ => m - (intOf v).toNat)
 case atStart => exact ⟨0, 0, _, [], Nat.zero_le _, rfl, rfl, hE0.out, EdD.start _ _, hs3.out, hon3.out⟩
 case round =>
  clear hE0 hs3 hon3;obtain ⟨k, cc, E, es1, hk, rfl, rfl, hO, hEd, hS, hon⟩ := hrel;have hbox := hide (hbox2.out.only hon.out (.inr (by omega)));have hzr := hon.out.size
  by_cases hlt : k < m
  ·have k0 : (0 : Int) ≤ (k : Int) := by omega
   have k1 : (k : Int) < (m : Int) := by omega
   obtain ⟨gb, ob, f, lb, t, rfl, -, -, hgb, hx, x0, x1, x2, -⟩ := SlE.get (hB2.out.only hon.out (.inr (by omega))) hlt;have hin := hed.out _ (List.mem_of_getElem? hx)
   (try dsimp only at hin)
   have b3 := hbox.out.c3;have hbx := heap_alloc_new wr (.cells #[.int .i64 f, .int .i64 lb, .int .i64 t] 84);have hOE := hO.out.alloc (.cells #[.int .i64 f, .int .i64 lb, .int .i64 t] 84);have hSE := hS.out.alloc (.cells #[.int .i64 f, .int .i64 lb, .int .i64 t] 84);have honE := (Only.refl b (b + 1) wr).alloc' (.cells #[.int .i64 f, .int .i64 lb, .int .i64 t] 84);obtain ⟨wE, hwE⟩ : ∃ wE, wE = wr.alloc (.cells #[.int .i64 f, .int .i64 lb, .int .i64 t] 84) := ⟨_, rfl⟩;rw [← hwE] at hbx hOE hSE honE;obtain ⟨be, hbe⟩ : ∃ be, be = wr.heap.size := ⟨_, rfl⟩;rw [← hbe] at hbx;obtain ⟨wO, hwO⟩ : ∃ wO : World, wO = wr := ⟨_, rfl⟩;have hbel : be < wE.heap.size := (Array.getElem?_eq_some_iff.1 hbx).1;have q2 := hide (one_calls b _ 3 wE hSE (by omega));replace hbx := hide hbx;replace hOE := hide hOE;replace honE := hide honE;clear hx hSE;go_upto_region 7 with fail;rw [← hwE, ← hbe];replace hwE := hide hwE;have hbe2 : w2.heap.size ≤ be := by rw [hbe]; exact hzr
   have hber : wr.heap.size ≤ be := Nat.le_of_eq hbe.symm;replace hbe := hide hbe;clear x0 x1 x2 b3 hwO;go_upto_if 24 with (first | (go_at_call 92; (with_reducible refine q2.out.mono ?_); rintro e w5 ⟨yes, rfl, hs5⟩; replace hs5 := hide hs5))
   go_cut [] (fun wx => ∃ lb2 : Int, Hid (0 ≤ lb2 ∧ lb2 < (n : Int)) ∧ Hid (wx.heap[be]? = some (.cells #[.int .i64 f, .int .i64 lb2, .int .i64 t] 84 (0, 0))) ∧ Hid (Own 3 ev wx w2.heap.size 84 E k cc es1) ∧ Hid (SrcW wx b (N + 1000 + 2 * k + 2)) ∧ Hid (Only b (b + 1) wr wx))
   case first =>
    have hb5 : w5.heap[be]? = _ := (hs5.out.only.block be hbel (by omega)).trans hbx.out;have hO5 := hide (hOE.out.keep (w' := w5) fun g e => hs5.out.only.block g (hOE.out.lt g e).2 (by have := (hOE.out.lt g e).1; omega));have hon5 := hide (honE.out.trans' hs5.out.only)
    cases yes with
    | false =>
     go_wp2_with fail;go_meet
     exact ⟨lb, hin.2.1, hb5, hO5.out, hs5.out.src, hon5.out⟩
    | true =>
     have y1 : w5.cell? ⟨be, 1, none⟩ = some (.int .i64 lb) := cR 1 hb5;have z1 : w5.frozen? ⟨be, 1, none⟩ = false := frozen_of_row _ _ 1 _ _ hb5;have hb6 : Hid ((w5.setCell ⟨be, 1, none⟩ (.int .i64 0)).heap[be]? = some (.cells #[.int .i64 f, .int .i64 0, .int .i64 t] 84 (0, 0))) := heap_setCell_same w5 be 1 _ _ (.int .i64 0) hb5;have hO6 := hide (hO5.out.keep (w' := w5.setCell ⟨be, 1, none⟩ (.int .i64 0)) fun g e => Below.heap_setCell _ _ _ _ (by
      have := (hO.out.lt g e).2
      show g ≠ be
      omega))
     have hS6 := hide (hs5.out.src.setNew (p := ⟨be, 1, none⟩) (by show b < be; omega) (.int .i64 0));have hon6 := hide (hon5.out.setNew (p := ⟨be, 1, none⟩) hber (.int .i64 0));replace hb5 := hide hb5;go_wp2_with fail;go_meet;exact ⟨0, by show _ ∧ _; omega, hb6.out, hO6.out, hS6.out, hon6.out⟩
   case rest =>
    clear hOE honE q2 hO hS hbx;obtain ⟨lb2, hlb2, hbx, hO, hS, honC⟩ := hcut;have hon6 := hide (hon.out.trans' honC.out);have y0 : wc.cell? ⟨be, 0, none⟩ = some (.int .i64 f) := cR 0 hbx.out;have y1 : wc.cell? ⟨be, 1, none⟩ = some (.int .i64 lb2) := cR 1 hbx.out;have y2 : wc.cell? ⟨be, 2, none⟩ = some (.int .i64 t) := cR 2 hbx.out;have hz6 := hon6.out.size;have hza : w2.heap.size ≤ (wc.alloc (.cells #[.int .i64 f, .int .i64 lb2, .int .i64 t] 84)).heap.size := by rw [World.size_alloc]; omega
    have hOa := hide (hO.out.alloc (.cells #[.int .i64 f, .int .i64 lb2, .int .i64 t] 84));have hSa := hide (hS.out.alloc (.cells #[.int .i64 f, .int .i64 lb2, .int .i64 t] 84));have hona := hide (hon6.out.alloc' (.cells #[.int .i64 f, .int .i64 lb2, .int .i64 t] 84));have hrow := hide (fun q (e : (Value.slice E k cc).ownBlock = some q) => (hOa.out.lt q e).1);have hEd2 := hide (hEd.out.app (f := f) (l := lb2) (t := t) hin.1 hlb2.out hin.2.2);clear hO hS hon honC hon6 hEd hz6;go_wp2_with (first | (at_builtin; (with_reducible refine wpList_app rfl (.tmp 26) (.tmp 28) rfl hEe.out flat_ev rfl hOa.out rfl (Sl.lit1' wc 84 (f, lb2, t) _ rfl 3 _ ?d0) ?d1 hza ?_); rotate_right; intro A6 c6 w6 hown6 hgr6 hb6 hat6))
    case d0 => rfl
    case d1 => omega
    have hS6 := hide ((hSa.out.grow hgr6 (fun q e => by have := hrow.out q e; omega)).more (show N + 1000 + 2 * k + 2 ≤ N + 1000 + 2 * (k + 1) by omega));have hon6 := hide (hona.out.grow hgr6 (fun q e => hrow.out q e));replace hown6 := hide hown6;clear hgr6 hb6 hat6 hOa hSa hona hrow y0 y1 y2;go_wp2_with fail;go_roundw
    case rel => exact ⟨k + 1, c6, A6, _, by omega, by go_num, rfl, hown6.out, hEd2.out, hS6.out, hon6.out⟩
    case measure => simp [intOf]; omega
  ·obtain rfl : k = m := by omega
   have k1 : ¬ (k : Int) < (k : Int) := by omega
   obtain ⟨wL, rfl⟩ : ∃ wL : World, wL = wr := ⟨_, rfl⟩;have b3 := hbox.out.c3;have q3 := hide (pick_calls b _ 3 wL hS.out (by omega));go_wp2_with fail;refine q3.out.mono ?_;rintro e w5 ⟨r0, rfl, r00, r01, hs5⟩;obtain ⟨r, rfl⟩ : ∃ r : Nat, r0 = (r : Int) := ⟨r0.toNat, by omega⟩;have hr2 : r ≤ 2 := by omega
   have hO5 := hide (hO.out.keep (w' := w5) fun g e => hs5.only.block g (hO.out.lt g e).2 (by have := (hO.out.lt g e).1; omega));have hon5 := hide (hon.out.trans' hs5.only);have hS5 := hide (hs5.src.more (show N + 1000 + 2 * k + 2 ≤ N + 1200 + 10 * (2 - r) by omega));clear q3 hs5 hO hon hS r00 r01 b3 hbox;go_wp2_with fail
   go_loopw [4, 7] (fun v4 v7 wr => ∃ (r mm cc : Nat) (E : Option Addr) (es1 : List Ed), r ≤ 2 ∧ v7 = .int .i64 (r : Nat) ∧ v4 = .slice E mm cc ∧ mm ≤ 62 - r ∧ Hid (Own 3 ev wr w2.heap.size 84 E mm cc es1) ∧ Hid (EdD st n es1) ∧ Hid (SrcW wr b (N + 1200 + 10 * (2 - r))) ∧ Hid (Only b (b + 1) w2 wr)) (fun _ v _ => (intOf v).toNat)
   case atStart => exact ⟨r, k, _, _, _, hr2, rfl, rfl, by omega, hO5.out, hEd.out, hS5.out, hon5.out⟩
   case round =>
    clear hO5 hon5 hS5 hEd hr2;obtain ⟨r, mm, cc, E, es1, hr, rfl, rfl, hmm, hO, hEd, hS, hon⟩ := hrel;have hbox := hide (hbox2.out.only hon.out (.inr (by omega)));have hzr := hon.out.size
    by_cases hpos : 0 < r
    ·have p1 : (0 : Int) < (r : Int) := by omega
     obtain ⟨NN, hNN⟩ : ∃ NN, N + 1200 + 10 * (2 - r) = NN := ⟨_, rfl⟩;rw [hNN] at hS;have hNNb : NN ≤ N + 2000 := by omega
     replace hNN := hide hNN;have q1 := hide (pick_calls b NN (st : Int) wr.drew hS.out.drew (by omega));go_upto_region 13 with fail
     focus
      refine lateT_begin (S := fun w' => w'.cell? ⟨w1.heap.size, 0, none⟩ = some (.int .i64 (st : Int))) (st := 12) (by kernel_rfl) ?_;have hS0 : (fun w' : World => w'.cell? ⟨w1.heap.size, 0, none⟩ = some (.int .i64 (st : Int))) wr.drew := hbox.out.c0;refine tkB 0 [12] hS0 ?_;refine tkB 1 [12] hS0 ?_;refine tkB 2 [12] hS0 ?_;refine tkB 3 [12] hS0 ?_;refine tkB 5 [12] hS0 ?_;refine tkB 6 [12] hS0 ?_;refine tkB 7 [12] hS0 ?_;refine lS 4 fun K hK => ?_
      go_simp;go_at_call 84
      refine q1.out.mono ?_;rintro e w5 ⟨f, rfl, f0, f1, h5⟩;have hb5 := hide (hbox.out.only (w := wr.drew) h5.only (.inr (by omega)));have k5 := hb5.out.c0;have q2 := hide (pick_calls b _ (st : Int) w5 h5.src (by omega));replace h5 := hide h5;clear q1;go_wp2_with fail;refine kP hK (fun _ => k5) ?_;clear hK K;refine lS 8 fun K hK => ?_
      go_simp;go_at_call 84
      refine q2.out.mono ?_;rintro e w6 ⟨tg, rfl, t0, t1, h6⟩;have hb6 := hide (hb5.out.only h6.only (.inr (by omega)));have k6 := hb6.out.c0;replace h6 := hide (h5.out.trans h6);have hO6 := hide (hO.out.keep (w' := w6) fun g e => h6.out.only.block (w := wr.drew) g (hO.out.lt g e).2 (by have := (hO.out.lt g e).1; omega));have hon6 := hide (hon.out.drew'.trans' h6.out.only);have hz6 := hon6.out.size;have hza : w2.heap.size ≤ (w6.alloc (.cells #[.int .i64 f, .int .i64 0, .int .i64 tg] 84)).heap.size := by rw [World.size_alloc]; omega
      have hOa := hide (hO6.out.alloc (.cells #[.int .i64 f, .int .i64 0, .int .i64 tg] 84));have hSa := hide (h6.out.src.alloc (.cells #[.int .i64 f, .int .i64 0, .int .i64 tg] 84));have hona := hide (hon6.out.alloc' (.cells #[.int .i64 f, .int .i64 0, .int .i64 tg] 84));have hbxa := hide (hb6.out.below ((Below.refl w6.heap.size w6).alloc zR (.cells #[.int .i64 f, .int .i64 0, .int .i64 tg] 84)) hb6.out.lt);have ka := hbxa.out.c0;have hrow := hide (fun q (e : (Value.slice E mm cc).ownBlock = some q) => (hOa.out.lt q e).1);have hEd2 := hide (hEd.out.app (f := f) (l := 0) (t := tg) (by omega) (by omega) (by omega));have hlit := hide (Sl.lit1' (f := ev) w6 84 (f, (0 : Int), tg) #[.int .i64 f, .int .i64 0, .int .i64 tg] rfl 3 _ rfl);have hsz : (mm + 1) * 24 ≤ 140737488355328 := by omega
      clear q2 h5 hO hon hS hEd;go_wp2_with fail;refine kP hK (fun _ => k6) ?_;clear hK K;refine lS 9 fun K hK => ?_
      go_simp;refine kP hK (fun _ => k6) ?_
      clear hK K;refine lS 10 fun K hK => ?_
      go_simp;refine kP hK (fun _ => ka) ?_
      clear hK K;refine lS 11 fun K hK => ?_
      refine step_appL (m := 1) (d := 1) (by rfl) (.tmp 36) (.tmp 46) (by rfl) hEe.out flat_ev (by go_simp) hOa.out (by go_simp) hlit.out hsz hza ?_;intro A6 c6 w7 hown7 hgr7 hb7 hat7;have hS7 := hide (hSa.out.grow hgr7 (fun q e => by have := hrow.out q e; omega));have hon7 := hide (hona.out.grow hgr7 (fun q e => hrow.out q e));have hbx7 := hide (hbxa.out.below hb7 (by omega));have k7 := hbx7.out.c0;replace hown7 := hide hown7;clear hgr7 hb7 hat7;refine kP hK (fun _ => k7) ?_;clear hK K;refine lS 12 fun K hK => ?_
      go_simp;refine kP hK nH ?_
      clear hK K;refine lateT_done (by kernel_rfl) ?_ _;obtain ⟨r2, rfl⟩ : ∃ r2, r = r2 + 1 := ⟨r - 1, by omega⟩;have hS8 := hide (hS7.out.more (show NN + 2 + 2 ≤ N + 1200 + 10 * (2 - r2) by have := hNN.out; omega));go_wp2_with fail;go_roundw
      case rel => exact ⟨r2, mm + 1, c6, A6, _, by omega, by go_num, rfl, by omega, hown7.out, hEd2.out, hS8.out, hon7.out⟩
      case measure => simp [intOf]
    ·obtain rfl : r = 0 := by omega
     have p1 : ¬ (0 : Int) < ((0 : Nat) : Int) := by omega
     have c0 := hbox.out.c0;have c1 := hbox.out.c1;have c2 := hbox.out.c2;have hmmL := hO.out.len;have r2 := hide (l11Make_calls (st : Int) (ini : Int) A n c (joiF ts) E mm cc es1 wr ((hA2.out.only hon.out (.inr (by omega))).more (Nat.zero_le _) (by omega)) ((hO.out.sl flat_ev).more (Nat.zero_le _) zR) (fun e he => (hEd.out e he).2.1) (by omega) (by omega));go_wp2_with fail;refine r2.out.mono ?_;rintro e w7 ⟨A3, n3, c3, B3, m3, d3, es3, rfl, hA3, hB3, hM, hb7⟩;have hF := hide ((hon2.out.trans' hon.out).belowAt hb7 (by omega));have h8 : w7.heap[w.heap.size]? = _ := (hF.out.block w.heap.size hz0 (by omega)).trans k8.out;have a0 : w7.cell? ⟨w.heap.size, 0, none⟩ = some (.int .i64 0) := cR 0 h8;have a1 : w7.cell? ⟨w.heap.size, 1, none⟩ = some (.int .i64 0) := cR 1 h8;have a2 : w7.cell? ⟨w.heap.size, 2, none⟩ = some (.slice none 0 0) := cR 2 h8;have a3 : w7.cell? ⟨w.heap.size, 3, none⟩ = some (.slice none 0 0) := cR 3 h8;have z0 : w7.frozen? ⟨w.heap.size, 0, none⟩ = false := frozen_of_row _ _ 0 _ _ h8;have z1 : w7.frozen? ⟨w.heap.size, 1, none⟩ = false := frozen_of_row _ _ 1 _ _ h8;have z2 : w7.frozen? ⟨w.heap.size, 2, none⟩ = false := frozen_of_row _ _ 2 _ _ h8;have z3 : w7.frozen? ⟨w.heap.size, 3, none⟩ = false := frozen_of_row _ _ 3 _ _ h8;have hS7 := hide (hS.out.below hb7 (by omega));have hz7 := hb7.size;have hlA3 := hA3.len;have hlj := joi_len (joiF ts);replace hA3 := hide hA3;replace hB3 := hide hB3;replace hM := hide hM;replace h8 := hide h8;clear r2 hb7 c0 c1 c2 hbox;go_wp2_with fail
     (try simp only [Exit.inBlock, Exit.then])
     refine bodyPost_ret_by (v := .agg #[.int .i64 (st : Int), .int .i64 (ini : Int), .slice A3 n3 c3, .slice B3 m3 d3]) ?_ rfl ?_
     focus
      rw [results_cell1 rfl];go_simp
     change DrawnG 7 64 2000 b N w _ (put4 w7 w.heap.size _ _ _ _)
     have hZs := put4_size w7 w.heap.size (.int .i64 (st : Int)) (.int .i64 (ini : Int)) (.slice A3 n3 c3) (.slice B3 m3 d3);have hnam : NamD (joiF ts) := fun x hx => ((joi_mem_iff ts x).1 hx).elim .inl (hD.out x)
     have hlab : ∀ x, x ∈ joiF ts → x = tauB ∨ labS x = true := fun x hx => (hnam x hx).imp id fun h => (nm5_lab x h).1
     have hmade : ltsV ((st : Int), (ini : Int), joiF (joiF ts), es3) = true := made_valid (by omega) (by omega) hlab (by omega) (by omega) (fun e he => ⟨(hEd.out e he).1, (hEd.out e he).2.2⟩) hM.out;refine ⟨st, ini, A3, n3, c3, B3, m3, d3, joiF ts, es3, rfl, ?_, ?_, hmade, by omega, by have := hM.out.2.1; omega, by omega, hnam, ?_, ?_⟩
     ·exact (Sl.keep hA3.out (by omega) fun q h1 h2 h3 => put4_other _ _ _ _ _ _ (by omega)).more (by omega) (by omega)
     ·exact (Sl.keep hB3.out (by omega) fun q h1 h2 h3 => put4_other _ _ _ _ _ _ (by omega)).more (by omega) (by omega)
     ·exact (hS7.out.keep (by omega) fun q hq => put4_other _ _ _ _ _ _ (by omega)).more (by omega)
     ·exact put4_only (hon0.out.trans' hF.out) zR _ _ _ _
end Go.Proofs.YtnhomkmfbngmgaaGreatDoor
namespace Go.Proofs.YtnhomkmfbngmgaaGreatDoor
def firsts : List Int → List Int → List Int
 | L, [] => L
 | L, x :: l => firsts (if x ∈ L then L else L ++ [x]) l
theorem firsts_app (L l : List Int) : ∃ K, firsts L l = L ++ K := by
 induction l generalizing L with
 | nil => exact ⟨[], (List.append_nil L).symm⟩
 | cons x l ih =>
  unfold firsts;obtain ⟨K, hK⟩ := ih (if x ∈ L then L else L ++ [x]);rw [hK]
  split
  ·exact ⟨K, rfl⟩
  ·exact ⟨x :: K, by rw [List.append_assoc]; rfl⟩
theorem firsts_mem {L l : List Int} {x : Int} : x ∈ firsts L l ↔ x ∈ L ∨ x ∈ l := by
 induction l generalizing L with
 | nil => simp [firsts]
 | cons t l ih =>
  unfold firsts;rw [ih]
  split
  ·rename_i h
   constructor
   ·rintro (g | g)
    ·exact .inl g
    ·exact .inr (List.mem_cons_of_mem _ g)
   ·rintro (g | g)
    ·exact .inl g
    ·rcases List.mem_cons.1 g with rfl | g
     ·exact .inl h
     ·exact .inr g
  ·simp only [List.mem_append, List.mem_singleton, List.mem_cons, or_assoc, List.not_mem_nil, false_or]
def normF (l : List Int) : List Int := l.map fun x => ((firsts [] l).idxOf x : Int)
theorem normF_len (l : List Int) : (normF l).length = l.length := by simp [normF]
theorem normF_at {l : List Int} {i : Nat} {x : Int} (h : l[i]? = some x) : (normF l)[i]? = some ((firsts [] l).idxOf x : Int) := by
 unfold normF; rw [List.getElem?_map, h]; rfl
def sameB (l : List Int) (i j : Nat) : Prop := l[i]? = l[j]?
theorem normF_same {l : List Int} {i j : Nat} (hi : i < l.length) (hj : j < l.length) : sameB (normF l) i j ↔ sameB l i j := by
 unfold sameB;have h1 : l[i]? = some l[i] := List.getElem?_eq_getElem hi;have h2 : l[j]? = some l[j] := List.getElem?_eq_getElem hj;rw [normF_at h1, normF_at h2, h1, h2]
 constructor
 ·intro h
  injection h with h;have h : (firsts [] l).idxOf l[i] = (firsts [] l).idxOf l[j] := by omega
  have g1 := List.idxOf_lt_length_of_mem (firsts_mem.2 (.inr (List.getElem_mem hi)) : l[i] ∈ firsts [] l);have g2 := List.idxOf_lt_length_of_mem (firsts_mem.2 (.inr (List.getElem_mem hj)) : l[j] ∈ firsts [] l);have e1 := List.getElem_idxOf g1;have e2 := List.getElem_idxOf g2;rw [← e1, ← e2];simp only [h]
 ·intro h
  injection h with h;rw [h]
theorem firsts_map {f : Int → Int} {L l : List Int} (hf : ∀ x y, x ∈ L ++ l → y ∈ L ++ l → f x = f y → x = y) : firsts (L.map f) (l.map f) = (firsts L l).map f := by
 induction l generalizing L with
 | nil => rfl
 | cons x l ih =>
  rw [List.map_cons];unfold firsts
  by_cases h : x ∈ L
  ·rw [if_pos h, if_pos (List.mem_map_of_mem h)]
   exact ih fun a b ha hb => hf a b (by rw [List.mem_append, List.mem_cons]; rcases List.mem_append.1 ha with g | g; exact .inl g; exact .inr (.inr g)) (by rw [List.mem_append, List.mem_cons]; rcases List.mem_append.1 hb with g | g; exact .inl g; exact .inr (.inr g))
  ·rw [if_neg h, if_neg (fun hm => by
    obtain ⟨y, hy, e⟩ := List.mem_map.1 hm;have := hf y x (List.mem_append_left _ hy) (List.mem_append_right _ (List.mem_cons_self ..)) e;exact h (this ▸ hy))]
   rw [show L.map f ++ [f x] = (L ++ [x]).map f by simp];exact ih fun a b ha hb => hf a b (by simpa using ha) (by simpa using hb)
theorem idxOf_mapI {f : Int → Int} : ∀ {L : List Int} {x : Int}, (∀ y, y ∈ L → f y = f x → y = x) → (L.map f).idxOf (f x) = L.idxOf x
 | [], x, _ => rfl
 | a :: L, x, h => by
  rw [List.map_cons, List.idxOf_cons, List.idxOf_cons]
  by_cases e : a = x
  ·subst e; simp
  ·have : f a ≠ f x := fun g => e (h a (List.mem_cons_self ..) g)
   rw [beq_eq_false_iff_ne.2 e, beq_eq_false_iff_ne.2 this];simp only [cond_false];rw [idxOf_mapI fun y hy => h y (List.mem_cons_of_mem _ hy)]
theorem normF_map {f : Int → Int} {l : List Int} (hf : ∀ x y, x ∈ l → y ∈ l → f x = f y → x = y) : normF (l.map f) = normF l := by
 unfold normF;have h := firsts_map (f := f) (L := []) (l := l) (by simpa using hf);rw [List.map_nil] at h;rw [h, List.map_map]
 apply List.map_congr_left
 intro x hx
 show (((firsts [] l).map f).idxOf (f x) : Int) = _
 rw [idxOf_mapI fun y hy e => hf y x ((firsts_mem.1 hy).resolve_left (by simp)) hx e]
theorem normF_ext {l m : List Int} (hl : l.length = m.length) (h : ∀ i j, i < l.length → j < l.length → (sameB l i j ↔ sameB m i j)) : normF l = normF m := by
 have key : ∃ f : Int → Int, m = l.map f := by
  refine ⟨fun x => (m[l.idxOf x]?).getD 0, List.ext_getElem (by simp [hl]) fun i h1 h2 => ?_⟩;rw [List.getElem_map];have hi : i < l.length := by omega
  have hx : l.idxOf l[i] < l.length := List.idxOf_lt_length_of_mem (List.getElem_mem hi);have hs : sameB l (l.idxOf l[i]) i := by
   unfold sameB;rw [List.getElem?_eq_getElem hx, List.getElem?_eq_getElem hi];exact congrArg some (List.getElem_idxOf hx)
  have := (h _ _ hx hi).1 hs;unfold sameB at this;rw [this, List.getElem?_eq_getElem h1]
  rfl
 obtain ⟨f, rfl⟩ := key;refine (normF_map fun x y hx hy e => ?_).symm;obtain ⟨i, hi, rfl⟩ := List.getElem_of_mem hx;obtain ⟨j, hj, rfl⟩ := List.getElem_of_mem hy;have := (h i j hi hj).2 (by unfold sameB; rw [List.getElem?_map, List.getElem?_map, List.getElem?_eq_getElem hi, List.getElem?_eq_getElem hj]; exact congrArg some e);unfold sameB at this;rw [List.getElem?_eq_getElem hi, List.getElem?_eq_getElem hj] at this;injection this
theorem normF_norm (l : List Int) : normF (normF l) = normF l :=
 normF_ext (normF_len l) fun i j hi hj => normF_same (by rw [normF_len] at hi; exact hi) (by rw [normF_len] at hj; exact hj)
section
variable {p q : List Int}
end
section
variable {L : List Int} {R : List (Nat × Nat)} {a b : Nat}
end
def selfL (n : Nat) : List Int := (List.range n).map Int.ofNat
section
variable {p q : List Int}
end
theorem firsts_nodup {L l : List Int} (h : L.Nodup) : (firsts L l).Nodup := by
 induction l generalizing L with
 | nil => exact h
 | cons x l ih =>
  unfold firsts;refine ih ?_
  split
  ·exact h
  ·rename_i hn
   refine List.nodup_append.2 ⟨h, by simp, ?_⟩;intro a ha b hb e;rw [List.mem_singleton] at hb;subst hb; subst e;exact hn ha
theorem idx_self {L : List Int} (h : L.Nodup) {i : Nat} (hi : i < L.length) : L.idxOf L[i] = i := by
 have h1 := List.idxOf_lt_length_of_mem (List.getElem_mem hi : L[i] ∈ L);have h2 := List.getElem_idxOf h1
 rcases Nat.lt_trichotomy (L.idxOf L[i]) i with g | g | g
 ·exact absurd h2 (List.pairwise_iff_getElem.1 h _ _ h1 hi g)
 ·exact g
 ·exact absurd h2.symm (List.pairwise_iff_getElem.1 h _ _ hi h1 g)
theorem firsts_norm (l : List Int) : firsts [] (normF l) = selfL (firsts [] l).length := by
 have hn : (firsts [] l).Nodup := firsts_nodup List.nodup_nil;have h := firsts_map (f := fun x => ((firsts [] l).idxOf x : Int)) (L := []) (l := l) (by
  intro x y hx hy e;have hx : x ∈ firsts [] l := firsts_mem.2 (.inr (by simpa using hx));have hy : y ∈ firsts [] l := firsts_mem.2 (.inr (by simpa using hy));have e : (firsts [] l).idxOf x = (firsts [] l).idxOf y := by omega
  have g1 := List.getElem_idxOf (List.idxOf_lt_length_of_mem hx);have g2 := List.getElem_idxOf (List.idxOf_lt_length_of_mem hy);rw [← g1, ← g2];simp only [e])
 rw [List.map_nil] at h
 show firsts [] (l.map _) = _
 rw [h];refine List.ext_getElem (by simp [selfL]) fun i h1 h2 => ?_
 have h3 : i < (firsts [] l).length := by simpa using h1
 rw [List.getElem_map, idx_self hn h3]
 simp [selfL]
theorem firsts_one (L : List Int) (x : Int) : firsts L [x] = if x ∈ L then L else L ++ [x] := rfl
theorem firsts_two (L l m : List Int) : firsts L (l ++ m) = firsts (firsts L l) m := by
 induction l generalizing L with
 | nil => rfl
 | cons x l ih => exact ih _
def cntB (p : List Int) (i : Nat) : Nat := (firsts [] (p.take i)).length
section
variable {p : List Int} {i : Nat} {x : Int}
theorem firsts_take (hp : normF p = p) (i : Nat) : firsts [] (p.take i) = selfL (cntB p i) := by
 have h1 : firsts [] p = selfL (firsts [] p).length := by
  conv => lhs; rw [← hp]
  rw [firsts_norm]
 obtain ⟨K, hK⟩ := firsts_app (firsts [] (p.take i)) (p.drop i);rw [← firsts_two, List.take_append_drop] at hK;have h2 : firsts [] (p.take i) = (firsts [] p).take (cntB p i) := by
  rw [hK];unfold cntB;rw [List.take_left]
 have h3 : cntB p i ≤ (firsts [] p).length := by
  rw [hK, List.length_append]; unfold cntB; omega
 rw [h2, h1];unfold selfL;rw [← List.map_take, List.take_range, Nat.min_eq_left (by simpa [selfL] using h3)]
theorem cntB_step (hp : normF p = p) (hx : p[i]? = some x) : (0 ≤ x ∧ x < cntB p i ∧ cntB p (i + 1) = cntB p i) ∨ (x = cntB p i ∧ cntB p (i + 1) = cntB p i + 1) := by
 have h1 : firsts [] (p.take (i + 1)) = firsts (firsts [] (p.take i)) [x] := by
  rw [← firsts_two, List.take_add_one, hx]; rfl
 have h2 := firsts_take hp i;have h3 := firsts_take hp (i + 1)
 by_cases hm : x ∈ firsts [] (p.take i)
 ·left
  have h4 : firsts [] (p.take (i + 1)) = firsts [] (p.take i) := by rw [h1, firsts_one, if_pos hm]
  rw [h2] at hm;unfold selfL at hm;obtain ⟨v, hv, rfl⟩ := List.mem_map.1 hm;have hv := List.mem_range.1 hv;exact ⟨Int.natCast_nonneg v, Int.ofNat_lt.2 hv, by unfold cntB; rw [h4]⟩
 ·right
  have h4 : firsts [] (p.take (i + 1)) = firsts [] (p.take i) ++ [x] := by
   rw [h1, firsts_one, if_neg hm]
  have h5 : cntB p (i + 1) = cntB p i + 1 := by unfold cntB; rw [h4, List.length_append]; rfl
  refine ⟨?_, h5⟩;rw [h3, h2, h5] at h4;unfold selfL at h4;rw [List.range_succ, List.map_append] at h4;have := List.append_cancel_left h4;injection this with this;exact this.symm
end
end Go.Proofs.YtnhomkmfbngmgaaGreatDoor
