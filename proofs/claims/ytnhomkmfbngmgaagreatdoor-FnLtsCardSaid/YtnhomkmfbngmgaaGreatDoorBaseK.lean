/-
  Lemmas that the law of this claim leans on. Conditions: sizes.
-/
import Derived.Test.YtnhomkmfbngmgaaGreatDoorBaseG
import Derived.Test.YtnhomkmfbngmgaaGreatDoorBaseI
import Derived.Test.YtnhomkmfbngmgaaGreatDoorBaseJ
import Derived.Deep.DeepCutAuto
set_option maxHeartbeats 12800000
set_option maxRecDepth 100000
set_option linter.unusedSimpArgs false
set_option linter.unusedVariables false
namespace Go.Proofs.YtnhomkmfbngmgaaGreatDoor
open Go.ChangeShapes Go.WideShapes Go.ChangeAt Go.RowKit Go.Sort Go.Lib
theorem put4_belU {K : Nat} {a w : World} (h : Below K a w) {g : Nat} (hg : K ≤ g) (v0 v1 v2 v3 : Value) : Below K a (put4 w g v0 v1 v2 v3) :=
 (((h.setCell (p := ⟨g, 0, none⟩) hg v0).setCell (p := ⟨g, 1, none⟩) hg v1).setCell (p := ⟨g, 2, none⟩) hg v2).setCell (p := ⟨g, 3, none⟩) hg v3
theorem Sl.put4U {α : Type} {size : Nat} {f : α → List Value} {w : World} {lo hi n : Nat} {A : Option Addr} {l : List α} (h : Sl size f w lo hi A n l) {g : Nat} (hg : g < lo ∨ hi ≤ g) (v0 v1 v2 v3 : Value) : Sl size f (put4 w g v0 v1 v2 v3) lo hi A n l :=
 Sl.keep h (Nat.le_of_eq (put4_size ..).symm) fun q h1 h2 h3 => put4_other _ _ _ _ _ _ (by omega)
theorem results_css {fn : Func} {p q r : Tmp} {ty : TypeId} (h : fn.results = #[.cell p ty, .tmp q, .tmp r]) (tmps : Array Value) (P : Program) (w : World) :
  (results fn tmps).run P w = ((asAddr (tmps.getD p undef)).run P w).andThen fun a w₁ => ((loadVar ty a).run P w₁).andThen fun v w₂ => .ok (.tuple #[v, tmps.getD q undef, tmps.getD r undef]) w₂ := by
 simp only [results, h]
 simp [Sem.run_bind, Result.andThen]
theorem labelsOf_calls (A : Option Addr) (m c : Nat) (rs : List Arc) (w : World) (lo hi : Nat) (h : SlA w lo hi A m rs) (hm : m ≤ 100000) :
  Calls Tryz.prog 135 #[.slice A m c] w fun e w' => ∃ Q cq, e = .returned (.slice Q m cq) ∧ Own 1 strv w' w.heap.size 9 Q m cq (labsA rs) ∧ Below w.heap.size w w' := by
 have hE := hide elem_str;have hlen := hide h.len;replace h := hide h;go_enter Tryz.func135, Tryz.ntmps135;go_wp2_with fail
 go_loopw [3, 8] (fun v3 v8 wr => ∃ (k : Nat) (A5 : Option Addr) (c5 : Nat), k ≤ m ∧ v8 = .int .i64 (k : Nat) ∧ v3 = .slice A5 k c5 ∧ Hid (Own 1 strv wr w.heap.size 9 A5 k c5 (labsA (rs.take k))) ∧ Hid (Below w.heap.size w wr)) (fun _ v8 _ => m - (intOf v8).toNat)
 case atStart => exact ⟨0, none, 0, Nat.zero_le _, rfl, rfl, Own.nil_ _ _ _, bR⟩
 case round =>
  obtain ⟨k, A5, c5, hk, rfl, rfl, hO, hb⟩ := hrel;have hzr := hb.out.size;have hr := hide (h.out.below hb.out (.inr zR))
  by_cases hlt : k < m
  ·obtain ⟨gB, oB, f, s, t, rfl, -, -, hgB, hx, x0, x1, x2⟩ := SlA.get hr.out hlt
   have hsu : Hid (labsA (rs.take (k + 1)) = labsA (rs.take k) ++ [s]) := by
    show _ = _
    unfold labsA;rw [List.take_add_one, hx, List.map_append]
    rfl
   have hbE : Below wr.heap.size wr (wr.alloc (.cells #[.int .i64 f, .string s, .int .i64 t] 204)) := bR.alloc zR _;have kE := heap_alloc_new wr (.cells #[.int .i64 f, .string s, .int .i64 t] 204);obtain ⟨wE, hwE⟩ : ∃ wE, wE = wr.alloc (.cells #[.int .i64 f, .string s, .int .i64 t] 204) := ⟨_, rfl⟩;rw [← hwE] at hbE kE;have y1 : wE.cell? ⟨wr.heap.size, 1, none⟩ = some (.string s) := (cell_of_row _ _ 1 _ _ (0, 0) kE).trans rfl;have hO3 := hide ((hO.out.below hbE zR).alloc (.cells #[.string s] 9));have hb3 := hide (hb.out.trans ((hbE.trans ((Below.refl wE.heap.size wE).alloc zR (.cells #[.string s] 9) |>.mono hbE.size)).mono hzr));have hlit := hide (Sl.lit1' (f := strv) wE 9 s #[.string s] rfl 1 _ rfl);have hza := hb3.out.size;have hsz : (k + 1) * 16 ≤ 140737488355328 := by omega
   replace kE := hide kE;replace hx := hide hx;clear hbE;go_upto_region 5 with fail;rw [← hwE];replace hwE := hide hwE;clear x0 x1 x2;go_wp2_with (first | (at_builtin; (with_reducible refine wpList_app rfl (.tmp 12) (.tmp 15) rfl hE.out flat_strv rfl hO3.out rfl hlit.out hsz hza ?_); intro A6 c6 w6 hown6 hgr6 hb6 hat6));have hO6 : Hid (Own 1 strv w6 w.heap.size 9 A6 (k + 1) c6 (labsA (rs.take (k + 1)))) := by show Own _ _ _ _ _ _ _ _ _; rw [hsu.out]; exact hown6
   have hb6' := hide (hb3.out.trans hb6);clear hgr6 hb6 hat6 hown6;go_roundw
   case rel => exact ⟨k + 1, A6, c6, by omega, by go_num, rfl, hO6, hb6'⟩
   case measure => simp [intOf]; omega
  ·obtain rfl : k = m := by omega
   have hO9 := hO.out;rw [List.take_of_length_le (by have := hlen.out; omega)] at hO9;replace hO9 := hide hO9;clear hO;go_wp2_with fail;go_ret;exact ⟨A5, c5, rfl, hO9.out, hb.out⟩
section
variable {w : World} {N ini : Nat} {A : Option Addr} {n : Nat} {B : Option Addr} {m : Nat} {ls : List ByteArray} {es : List Ed}
theorem usedL_calls (h : SysA w N ini A n B m ls es) (c d : Nat) :
  Calls Tryz.prog 60 #[.agg #[.int .i64 (N : Int), .int .i64 (ini : Int), .slice A n c, .slice B m d]] w fun e w' => ∃ A2 n2 c2 A3 n3 c3, e = .returned (.agg #[.int .i64 (N : Int), .int .i64 (ini : Int), .slice A2 n2 c2, .slice A3 n3 c3]) ∧ SlS w' w.heap.size w'.heap.size A2 n2 (usdL ls es) ∧ SlE w' w.heap.size w'.heap.size A3 n3 (usdE ls es) ∧ Below w.heap.size w w' := by
 obtain ⟨hm, hn12, hn1, hle, hll⟩ := h.many;obtain ⟨wB, hwB⟩ : ∃ wB, wB = w.alloc (ltsC N ini A n c B m d) := ⟨_, rfl⟩;have zB : wB.heap.size = w.heap.size + 1 := by rw [hwB]; exact World.size_alloc _ _
 obtain ⟨w1, hw1⟩ : ∃ w1, w1 = wB.alloc (.cells #[.int .i64 0, .int .i64 0, .slice none 0 0, .slice none 0 0] 27) := ⟨_, rfl⟩;have hB := h.box (c := c) (d := d);rw [← hwB] at hB;have hbB1 : Below wB.heap.size wB w1 := by rw [hw1]; exact bR.alloc zR _
 have hB1 := hB.below hbB1;have kR : w1.heap[w.heap.size + 1]? = some (.cells #[.int .i64 0, .int .i64 0, .slice none 0 0, .slice none 0 0] 27 (0, 0)) := by
  have := heap_alloc_new wB (.cells #[.int .i64 0, .int .i64 0, .slice none 0 0, .slice none 0 0] 27);rw [zB] at this;rw [hw1]; exact this
 have hkl : w.heap.size + 1 < w1.heap.size := (Array.getElem?_eq_some_iff.1 kR).1;have q1 := hide (arcs_calls hB1.sys c d);have b0 := hB1.box.c0;have b1 := hB1.box.c1;have b2 := hB1.box.c2;have b3 := hB1.box.c3;replace hB1 := hide hB1;replace kR := hide kR;obtain ⟨rs, hrs⟩ : ∃ rs, rs = es.map (arcOf ls) := ⟨_, rfl⟩;have hrl : Hid (rs.length = m) := by show _ = _; rw [hrs, List.length_map]; exact hle
 replace hle := hide hle;replace hll := hide hll;clear h hB hbB1;go_enter Tryz.func60, Tryz.ntmps60;go_upto_region 1 with fail;rw [show ((w.alloc (.cells #[.int .i64 (N : Int), .int .i64 (ini : Int), .slice A n c, .slice B m d] 27)).alloc (.cells #[.int .i64 0, .int .i64 0, .slice none 0 0, .slice none 0 0] 27)) = w1 from by rw [hw1, hwB]];replace hw1 := hide hw1;replace hwB := hide hwB;go_wp2_with fail;refine q1.out.mono ?_;rintro e w2 ⟨Q, cq, rfl, hO, hb2⟩;have hz2 := hb2.size;have hB2 := hide (hB1.out.below hb2);have kR2 := (hb2.block _ hkl).trans kR.out;obtain ⟨wD, hwD⟩ : ∃ wD, wD = w2.drew := ⟨_, rfl⟩;have hbD : Below w2.heap.size w2 wD := by rw [hwD]; exact bR.drew
 have hzD : wD.heap.size = w2.heap.size := by rw [hwD]; rfl
 have kRD := hide ((hbD.block _ (by omega)).trans kR2);have hBD := hB2.out.below hbD;rw [← hrs] at hO;have hSD := hide ((hO.sl flat_av).below hbD (.inl zR));have d0 := hBD.box.c0;have d1 := hBD.box.c1;have hlA := labelsOf_calls Q m cq rs wD _ _ hSD.out (by omega);replace hlA := hide hlA;replace hBD := hide hBD;replace hO := hide hO;replace hb2 := hide hb2;replace hbD := hide hbD;replace kR2 := hide kR2;clear q1 b0 b1 b2 b3;go_upto_region 2 with fail;replace hwD := hide hwD;refine lateT_begin (S := fun w' => w'.cell? ⟨w.heap.size, 0, none⟩ = some (.int .i64 (N : Int)) ∧ w'.cell? ⟨w.heap.size, 1, none⟩ = some (.int .i64 (ini : Int))) (st := 8) (by kernel_rfl) ?_;rw [← show wD = _ from hwD.out];have hS0 : (fun w' : World => w'.cell? ⟨w.heap.size, 0, none⟩ = some (.int .i64 (N : Int)) ∧ w'.cell? ⟨w.heap.size, 1, none⟩ = some (.int .i64 (ini : Int))) wD := ⟨d0, d1⟩;refine tkA _ 0 [8] rfl (Or.inl ⟨by kernel_rfl, by intro w9 hSw; obtain ⟨u8, u9⟩ := hSw; go_simp <;> with_reducible rfl⟩) hS0 ?_;refine tkA _ 1 [8] rfl (Or.inl ⟨by kernel_rfl, by intro w9 hSw; obtain ⟨u8, u9⟩ := hSw; go_simp <;> with_reducible rfl⟩) hS0 ?_;refine tkA _ 2 [8] rfl (Or.inl ⟨by kernel_rfl, by intro w9 hSw; obtain ⟨u8, u9⟩ := hSw; go_simp <;> with_reducible rfl⟩) hS0 ?_;refine tkA _ 3 [8] rfl (Or.inl ⟨by kernel_rfl, by intro w9 hSw; obtain ⟨u8, u9⟩ := hSw; go_simp <;> with_reducible rfl⟩) hS0 ?_;refine tkA _ 4 [8] rfl (Or.inl ⟨by kernel_rfl, by intro w9 hSw; obtain ⟨u8, u9⟩ := hSw; go_simp <;> with_reducible rfl⟩) hS0 ?_;refine tkA _ 6 [8] rfl (Or.inl ⟨by kernel_rfl, by intro w9 hSw; obtain ⟨u8, u9⟩ := hSw; go_simp <;> with_reducible rfl⟩) hS0 ?_;refine lS 5 fun K hK => ?_
 go_simp;go_at_call 135
 (with_reducible refine hlA.out.mono ?_)
 rintro e u1 ⟨Q2, cq2, rfl, hO1, hv1⟩;have hB1u := hide (hBD.out.below hv1);have kR1u := hide ((hv1.block _ (by omega)).trans kRD.out);have p0 := hB1u.out.box.c0;have p1 := hB1u.out.box.c1;have hzu := hv1.size;have hlt := hide (ltsC_calls (N : Int) (ini : Int) Q2 m cq2 (labsA rs) Q m cq rs u1 _ _ _ _ (hO1.sl flat_strv) zR (by omega) (hSD.out.below hv1 (.inl (by omega))) (by omega) (by omega));replace hv1 := hide hv1;replace hO1 := hide hO1;go_wp2_with fail;refine kP hK (fun _ => ⟨p0, p1⟩) ?_;clear hK K;refine lS 7 fun K hK => ?_
 go_simp;go_at_call 134
 (with_reducible refine hlt.out.mono ?_)
 rintro e u2 ⟨A2, n2, c2, A3, n3, c3, rfl, hS, hOE, hv2, -⟩;have h8 : u2.heap[w.heap.size + 1]? = _ := (hv2.block _ (by omega)).trans kR1u.out;have a0 : u2.cell? ⟨w.heap.size + 1, 0, none⟩ = some (.int .i64 0) := (cell_of_row _ _ 0 _ _ (0, 0) h8).trans rfl;have a1 : u2.cell? ⟨w.heap.size + 1, 1, none⟩ = some (.int .i64 0) := (cell_of_row _ _ 1 _ _ (0, 0) h8).trans rfl;have a2 : u2.cell? ⟨w.heap.size + 1, 2, none⟩ = some (.slice none 0 0) := (cell_of_row _ _ 2 _ _ (0, 0) h8).trans rfl;have a3 : u2.cell? ⟨w.heap.size + 1, 3, none⟩ = some (.slice none 0 0) := (cell_of_row _ _ 3 _ _ (0, 0) h8).trans rfl;have y0 : u2.frozen? ⟨w.heap.size + 1, 0, none⟩ = false := frozen_of_row _ _ 0 _ _ h8;have y1 : u2.frozen? ⟨w.heap.size + 1, 1, none⟩ = false := frozen_of_row _ _ 1 _ _ h8;have y2 : u2.frozen? ⟨w.heap.size + 1, 2, none⟩ = false := frozen_of_row _ _ 2 _ _ h8;have y3 : u2.frozen? ⟨w.heap.size + 1, 3, none⟩ = false := frozen_of_row _ _ 3 _ _ h8;have hzv := hv2.size;have hB2u := hide (hB1u.out.below hv2);have r0 := hB2u.out.box.c0;have r1 := hB2u.out.box.c1;have hbF := hide hB2u.out.bel;rw [hrs] at hS hOE;have hE := hide (hOE.sl flat_ev);replace hS := hide hS;clear hOE;replace hv2 := hide hv2;replace h8 := hide h8;go_wp2_with fail;refine kP hK (fun _ => ⟨r0, r1⟩) ?_;clear hK K;refine lS 8 fun K hK => ?_
 go_simp;refine kP hK nH ?_
 clear hK K;refine lateT_done (by kernel_rfl) ?_ _;go_wp2_with fail
 (try simp only [Exit.inBlock, Exit.then])
 refine bodyPost_ret_by (v := .agg #[.int .i64 (N : Int), .int .i64 (ini : Int), .slice A2 n2 c2, .slice A3 n3 c3]) ?_ rfl ?_
 focus
  rw [results_cell1 rfl];go_simp
 have hP := put4_belU hbF.out (show w.heap.size ≤ w.heap.size + 1 by omega) (.int .i64 (N : Int)) (.int .i64 (ini : Int)) (.slice A2 n2 c2) (.slice A3 n3 c3);have hZs := put4_size u2 (w.heap.size + 1) (.int .i64 (N : Int)) (.int .i64 (ini : Int)) (.slice A2 n2 c2) (.slice A3 n3 c3);refine ⟨A2, n2, c2, A3, n3, c3, rfl, ?_, ?_, hP⟩
 ·exact (hS.out.put4U (.inl (by omega)) _ _ _ _).more (by omega) (Nat.le_of_eq hZs.symm)
 ·exact (hE.out.put4U (.inl (by omega)) _ _ _ _).more (by omega) (Nat.le_of_eq hZs.symm)
theorem usedLts_calls (h : SysA w N ini A n B m ls es) (c d : Nat) (he : Env w) :
  Calls Tryz.prog 16 #[.agg #[.int .i64 (N : Int), .int .i64 (ini : Int), .slice A n c, .slice B m d]] w fun e w' => ∃ A2 n2 c2 A3 n3 c3, e = .returned (.tuple #[.agg #[.int .i64 (N : Int), .int .i64 (ini : Int), .slice A2 n2 c2, .slice A3 n3 c3], .int .i64 0]) ∧ SlS w' w.heap.size w'.heap.size A2 n2 (usdL ls es) ∧ SlE w' w.heap.size w'.heap.size A3 n3 (usdE ls es) ∧ Below w.heap.size w w' := by
 obtain ⟨wB, hwB⟩ : ∃ wB, wB = w.alloc (ltsC N ini A n c B m d) := ⟨_, rfl⟩;have zB : wB.heap.size = w.heap.size + 1 := by rw [hwB]; exact World.size_alloc _ _
 obtain ⟨w1, hw1⟩ : ∃ w1, w1 = wB.alloc (.cells #[.int .i64 0, .int .i64 0, .slice none 0 0, .slice none 0 0] 27) := ⟨_, rfl⟩;have hB := h.box (c := c) (d := d);rw [← hwB] at hB;have hbB1 : Below wB.heap.size wB w1 := by rw [hw1]; exact bR.alloc zR _
 have hB1 := hB.below hbB1;have kR : w1.heap[w.heap.size + 1]? = some (.cells #[.int .i64 0, .int .i64 0, .slice none 0 0, .slice none 0 0] 27 (0, 0)) := by
  have := heap_alloc_new wB (.cells #[.int .i64 0, .int .i64 0, .slice none 0 0, .slice none 0 0] 27);rw [zB] at this;rw [hw1]; exact this
 have hkl : w.heap.size + 1 < w1.heap.size := (Array.getElem?_eq_some_iff.1 kR).1;have q1 := hide (hB1.sys.valid c d (he.below hB1.bel zR));have b0 := hB1.box.c0;have b1 := hB1.box.c1;have b2 := hB1.box.c2;have b3 := hB1.box.c3;replace hB1 := hide hB1;replace kR := hide kR;have h0 := h;clear h hB hbB1 he;clear h0;go_enter Tryz.func16, Tryz.ntmps16;go_upto_region 1 with fail;rw [show ((w.alloc (.cells #[.int .i64 (N : Int), .int .i64 (ini : Int), .slice A n c, .slice B m d] 27)).alloc (.cells #[.int .i64 0, .int .i64 0, .slice none 0 0, .slice none 0 0] 27)) = w1 from by rw [hw1, hwB]];replace hw1 := hide hw1;replace hwB := hide hwB;go_wp2_with fail;refine q1.out.mono ?_;rintro e w2 ⟨rfl, hb2⟩;have hz2 := hb2.size;have hB2 := hide (hB1.out.below hb2);have kR2 := hide ((hb2.block _ hkl).trans kR.out);have q3 := hide (usedL_calls hB2.out.sys c d);clear q1 b0 b1 b2 b3 hb2;have b0 := hB2.out.box.c0;have b1 := hB2.out.box.c1;have b2 := hB2.out.box.c2;have b3 := hB2.out.box.c3;go_wp2_with fail;refine q3.out.mono ?_;rintro e w4 ⟨A2, n2, c2, A3, n3, c3, rfl, hS, hE, hb⟩;have h8 : w4.heap[w.heap.size + 1]? = _ := (hb.block _ (by omega)).trans kR2.out;have a0 : w4.cell? ⟨w.heap.size + 1, 0, none⟩ = some (.int .i64 0) := (cell_of_row _ _ 0 _ _ (0, 0) h8).trans rfl;have a1 : w4.cell? ⟨w.heap.size + 1, 1, none⟩ = some (.int .i64 0) := (cell_of_row _ _ 1 _ _ (0, 0) h8).trans rfl;have a2 : w4.cell? ⟨w.heap.size + 1, 2, none⟩ = some (.slice none 0 0) := (cell_of_row _ _ 2 _ _ (0, 0) h8).trans rfl;have a3 : w4.cell? ⟨w.heap.size + 1, 3, none⟩ = some (.slice none 0 0) := (cell_of_row _ _ 3 _ _ (0, 0) h8).trans rfl;have y0 : w4.frozen? ⟨w.heap.size + 1, 0, none⟩ = false := frozen_of_row _ _ 0 _ _ h8;have y1 : w4.frozen? ⟨w.heap.size + 1, 1, none⟩ = false := frozen_of_row _ _ 1 _ _ h8;have y2 : w4.frozen? ⟨w.heap.size + 1, 2, none⟩ = false := frozen_of_row _ _ 2 _ _ h8;have y3 : w4.frozen? ⟨w.heap.size + 1, 3, none⟩ = false := frozen_of_row _ _ 3 _ _ h8;have hbF := hide (hB2.out.bel.trans (hb.mono (by omega)));have hz4 := hb.size;replace hS := hide hS;replace hE := hide hE;replace hb := hide hb;replace h8 := hide h8;clear q3 b0 b1 b2 b3;go_wp2_with fail
 (try simp only [Exit.inBlock, Exit.then])
 refine bodyPost_ret_by (v := .tuple #[.agg #[.int .i64 (N : Int), .int .i64 (ini : Int), .slice A2 n2 c2, .slice A3 n3 c3], .int .i64 0]) ?_ rfl ?_
 focus
  rw [results_cs rfl];go_simp
 have hP := put4_belU hbF.out (show w.heap.size ≤ w.heap.size + 1 by omega) (.int .i64 (N : Int)) (.int .i64 (ini : Int)) (.slice A2 n2 c2) (.slice A3 n3 c3);have hZs := put4_size w4 (w.heap.size + 1) (.int .i64 (N : Int)) (.int .i64 (ini : Int)) (.slice A2 n2 c2) (.slice A3 n3 c3);refine ⟨A2, n2, c2, A3, n3, c3, rfl, ?_, ?_, hP⟩
 ·exact (hS.out.put4U (.inl (by omega)) _ _ _ _).more (by omega) (Nat.le_of_eq hZs.symm)
 ·exact (hE.out.put4U (.inl (by omega)) _ _ _ _).more (by omega) (Nat.le_of_eq hZs.symm)
theorem reachPart_calls (h : SysA w N ini A n B m ls es) (c d : Nat) (he : Env w) (R : List Int) (hR : R = reachF N es (ini : Int)) (hRn : R.Nodup) :
  Calls Tryz.prog 14 #[.agg #[.int .i64 (N : Int), .int .i64 (ini : Int), .slice A n c, .slice B m d]] w fun e w' => ∃ (A2 : Option Addr) (c2 : Nat) (A3 : Option Addr) (n3 c3 q : Nat) (AR : Option Addr) (cR : Nat), e = .returned (.tuple #[.agg #[.int .i64 (q : Int), .int .i64 (posZ R (ini : Int)), .slice A2 n c2, .slice A3 n3 c3], .slice AR q cR, .int .i64 0]) ∧ SlS w' w.heap.size w'.heap.size A2 n ls ∧ SlE w' w.heap.size w'.heap.size A3 n3 (partF R es) ∧ SlI w' w.heap.size w'.heap.size AR q R ∧ Below w.heap.size w w' := by
 obtain ⟨wB, hwB⟩ : ∃ wB, wB = w.alloc (ltsC N ini A n c B m d) := ⟨_, rfl⟩;have zB : wB.heap.size = w.heap.size + 1 := by rw [hwB]; exact World.size_alloc _ _
 obtain ⟨w1, hw1⟩ : ∃ w1, w1 = wB.alloc (.cells #[.int .i64 0, .int .i64 0, .slice none 0 0, .slice none 0 0] 27) := ⟨_, rfl⟩;have hB := h.box (c := c) (d := d);rw [← hwB] at hB;have hbB1 : Below wB.heap.size wB w1 := by rw [hw1]; exact bR.alloc zR _
 have hB1 := hB.below hbB1;have kR : w1.heap[w.heap.size + 1]? = some (.cells #[.int .i64 0, .int .i64 0, .slice none 0 0, .slice none 0 0] 27 (0, 0)) := by
  have := heap_alloc_new wB (.cells #[.int .i64 0, .int .i64 0, .slice none 0 0, .slice none 0 0] 27);rw [zB] at this;rw [hw1]; exact this
 have hkl : w.heap.size + 1 < w1.heap.size := (Array.getElem?_eq_some_iff.1 kR).1;have q1 := hide (hB1.sys.valid c d (he.below hB1.bel zR));have b0 := hB1.box.c0;have b1 := hB1.box.c1;have b2 := hB1.box.c2;have b3 := hB1.box.c3;replace hB1 := hide hB1;replace kR := hide kR;have h0 := h;clear h hB hbB1 he;have hen := hide h0.ends;have hbd := h0.bounds;obtain ⟨⟨hN1, hN2⟩, hini⟩ := hbd;obtain ⟨hm300, hn12, hn1, hle, hll⟩ := h0.many;replace hle := hide hle;replace hll := hide hll;clear h0;replace hR := hide hR;replace hRn := hide hRn;go_enter Tryz.func14, Tryz.ntmps14;go_upto_region 1 with fail;rw [show ((w.alloc (.cells #[.int .i64 (N : Int), .int .i64 (ini : Int), .slice A n c, .slice B m d] 27)).alloc (.cells #[.int .i64 0, .int .i64 0, .slice none 0 0, .slice none 0 0] 27)) = w1 from by rw [hw1, hwB]];replace hw1 := hide hw1;replace hwB := hide hwB;go_wp2_with fail;refine q1.out.mono ?_;rintro e w2 ⟨rfl, hb2⟩;have hz2 := hb2.size;have hB2 := hide (hB1.out.below hb2);have kR2 := hide ((hb2.block _ hkl).trans kR.out);have q3 := reachable_calls N ini (.slice A n c) B m d es w2 0 w2.heap.size hB2.out.sys.se (by omega) hN1 hN2 hini ⟨A, n, c, rfl⟩ hen.out;rw [← hR.out] at q3;replace q3 := hide q3;clear q1 b0 b1 b2 b3 hb2;have b0 := hB2.out.box.c0;have b1 := hB2.out.box.c1;have b2 := hB2.out.box.c2;have b3 := hB2.out.box.c3;go_wp2_with fail;refine q3.out.mono ?_;rintro e w3 ⟨AR, q, cR, rfl, hSR, hq40, -, hb3⟩;have hz3 := hb3.size;have hB3 := hide (hB2.out.below hb3);have kR3 := hide ((hb3.block _ (by omega)).trans kR2.out);have q4 := hide (part_calls hB3.out.sys c d AR q cR _ _ R hSR zR (by omega) hRn.out);replace hSR := hide hSR;clear q3 b0 b1 b2 b3 hb3;have b0 := hB3.out.box.c0;have b1 := hB3.out.box.c1;have b2 := hB3.out.box.c2;have b3 := hB3.out.box.c3;go_wp2_with fail;refine q4.out.mono ?_;rintro e w4 ⟨A2, c2, A3, n3, c3, rfl, hS, hE, hb⟩;have h8 : w4.heap[w.heap.size + 1]? = _ := (hb.block _ (by omega)).trans kR3.out;have a0 : w4.cell? ⟨w.heap.size + 1, 0, none⟩ = some (.int .i64 0) := (cell_of_row _ _ 0 _ _ (0, 0) h8).trans rfl;have a1 : w4.cell? ⟨w.heap.size + 1, 1, none⟩ = some (.int .i64 0) := (cell_of_row _ _ 1 _ _ (0, 0) h8).trans rfl;have a2 : w4.cell? ⟨w.heap.size + 1, 2, none⟩ = some (.slice none 0 0) := (cell_of_row _ _ 2 _ _ (0, 0) h8).trans rfl;have a3 : w4.cell? ⟨w.heap.size + 1, 3, none⟩ = some (.slice none 0 0) := (cell_of_row _ _ 3 _ _ (0, 0) h8).trans rfl;have y0 : w4.frozen? ⟨w.heap.size + 1, 0, none⟩ = false := frozen_of_row _ _ 0 _ _ h8;have y1 : w4.frozen? ⟨w.heap.size + 1, 1, none⟩ = false := frozen_of_row _ _ 1 _ _ h8;have y2 : w4.frozen? ⟨w.heap.size + 1, 2, none⟩ = false := frozen_of_row _ _ 2 _ _ h8;have y3 : w4.frozen? ⟨w.heap.size + 1, 3, none⟩ = false := frozen_of_row _ _ 3 _ _ h8;have hbF := hide (hB3.out.bel.trans (hb.mono (by have := hB3.out.bel.size; omega)));have hz4 := hb.size;have hSR4 := hide (hSR.out.below hb (.inl zR));replace hS := hide hS;replace hE := hide hE;replace hb := hide hb
 replace h8 := hide h8;clear q4 b0 b1 b2 b3;go_wp2_with fail
 (try simp only [Exit.inBlock, Exit.then])
 refine bodyPost_ret_by (v := .tuple #[.agg #[.int .i64 (q : Int), .int .i64 (posZ R (ini : Int)), .slice A2 n c2, .slice A3 n3 c3], .slice AR q cR, .int .i64 0]) ?_ rfl ?_
 focus
  rw [results_css rfl];go_simp
 have hP := put4_belU hbF.out (show w.heap.size ≤ w.heap.size + 1 by omega) (.int .i64 (q : Int)) (.int .i64 (posZ R (ini : Int))) (.slice A2 n c2) (.slice A3 n3 c3);have hZs := put4_size w4 (w.heap.size + 1) (.int .i64 (q : Int)) (.int .i64 (posZ R (ini : Int))) (.slice A2 n c2) (.slice A3 n3 c3);refine ⟨A2, c2, A3, n3, c3, q, AR, cR, rfl, ?_, ?_, ?_, hP⟩
 ·exact (hS.out.put4U (.inl (by omega)) _ _ _ _).more (by omega) (Nat.le_of_eq hZs.symm)
 ·exact (hE.out.put4U (.inl (by omega)) _ _ _ _).more (by omega) (Nat.le_of_eq hZs.symm)
 ·exact (hSR4.out.put4U (.inl (by omega)) _ _ _ _).more (by omega) (Nat.le_trans hz4 (Nat.le_of_eq hZs.symm))
theorem reachStates_calls (h : SysA w N ini A n B m ls es) (c d : Nat) (he : Env w) :
  Calls Tryz.prog 15 #[.agg #[.int .i64 (N : Int), .int .i64 (ini : Int), .slice A n c, .slice B m d]] w fun e w' => ∃ (q : Nat) (AR : Option Addr) (cR : Nat), e = .returned (.tuple #[.slice AR q cR, .int .i64 0]) ∧ SlI w' w.heap.size w'.heap.size AR q (reachF N es (ini : Int)) ∧ Below w.heap.size w w' := by
 have hB := h.box (c := c) (d := d);obtain ⟨w1, hw1⟩ : ∃ w1, w1 = w.alloc (ltsC N ini A n c B m d) := ⟨_, rfl⟩;rw [← hw1] at hB;have q1 := hide (hB.sys.valid c d (he.below hB.bel zR));have hen := hide h.ends;obtain ⟨⟨hN1, hN2⟩, hini⟩ := h.bounds;obtain ⟨hm300, hn12, hn1, hle, hll⟩ := h.many;replace hle := hide hle;replace hll := hide hll;have b0 := hB.box.c0;have b1 := hB.box.c1;have b2 := hB.box.c2;have b3 := hB.box.c3;replace hB := hide hB;clear h he;go_enter Tryz.func15, Tryz.ntmps15;go_upto_region 1 with fail;rw [← show w1 = w.alloc (.cells #[.int .i64 (N : Int), .int .i64 (ini : Int), .slice A n c, .slice B m d] 27) from hw1];replace hw1 := hide hw1;go_wp2_with fail;refine q1.out.mono ?_;rintro e w2 ⟨rfl, hb2⟩;have hB2 := hide (hB.out.below hb2);have q3 := hide (reachable_calls N ini (.slice A n c) B m d es w2 0 w2.heap.size hB2.out.sys.se (by omega) hN1 hN2 hini ⟨A, n, c, rfl⟩ hen.out);clear q1 b0 b1 b2 b3 hb2;have b0 := hB2.out.box.c0;have b1 := hB2.out.box.c1;have b2 := hB2.out.box.c2;have b3 := hB2.out.box.c3;go_wp2_with fail;refine q3.out.mono ?_;rintro e w3 ⟨AR, q, cR, rfl, hSR, hq40, -, hb3⟩;have hbF := hide (hB2.out.bel.trans (hb3.mono hB2.out.bel.size));have hzf := hB2.out.bel.size;replace hSR := hide (hSR.more (show w.heap.size ≤ w2.heap.size by omega) zR);clear q3 b0 b1 b2 b3 hb3;go_wp2_with fail;go_ret2;exact ⟨q, AR, cR, rfl, hSR.out, hbF.out⟩
end
end Go.Proofs.YtnhomkmfbngmgaaGreatDoor
namespace Go.Proofs.YtnhomkmfbngmgaaGreatDoor
open Go.ChangeShapes Go.WideShapes Go.ChangeAt Go.RowKit Go.Sort
theorem lateT_threeR {P : Program} {ops : Array Oper} {Q : Exit → Act → World → Prop} {md : Region.Mode} {S : World → Prop} {st : Nat} {i j k : Nat} {o o' o2 : Oper} {m : Nat} {got : Array Bool} {a : Act} {w : World} (hr : Region.ready md ops got = [i, j, k]) (ho : ops[i]? = some o) (ho' : ops[j]? = some o') (ho2 : ops[k]? = some o2)
  (h : ∀ K : Act → World → Prop, Shut (∀ a w, (i ≠ st → S w) → lateT P md ops Q S st m (got.setIfInBounds i true) a w → K a w) → if Region.wanted o (yielded ops a.tmps) = true then Oper.wp P o a w K Q else K (a.put o.dst undef) w)
  (h' : ∀ K : Act → World → Prop, Shut (∀ a w, (j ≠ st → S w) → lateT P md ops Q S st m (got.setIfInBounds j true) a w → K a w) → if Region.wanted o' (yielded ops a.tmps) = true then Oper.wp P o' a w K Q else K (a.put o'.dst undef) w)
  (h2 : ∀ K : Act → World → Prop, Shut (∀ a w, (k ≠ st → S w) → lateT P md ops Q S st m (got.setIfInBounds k true) a w → K a w) → if Region.wanted o2 (yielded ops a.tmps) = true then Oper.wp P o2 a w K Q else K (a.put o2.dst undef) w) : lateT P md ops Q S st (m + 1) got a w := by
 refine ⟨fun h0 => (by rw [hr] at h0; cases h0), fun x hx => ?_⟩;rw [hr] at hx
 rcases List.mem_cons.1 hx with rfl | hx
 ·exact wpOp_step ho fun K hK => h K fun a w hS hl => hK a w ⟨hS, hl⟩
 ·rcases List.mem_cons.1 hx with rfl | hx
  ·exact wpOp_step ho' fun K hK => h' K fun a w hS hl => hK a w ⟨hS, hl⟩
  ·obtain rfl := List.mem_singleton.1 hx
   exact wpOp_step ho2 fun K hK => h2 K fun a w hS hl => hK a w ⟨hS, hl⟩
structure RlsW (wb w : World) (g : Option Nat) (q : Option (Option Addr × Nat × Nat)) (J : List ByteArray) (A : Option (Option Addr)) (k : Nat) (T : List ByteArray) : Prop where
 alc : AlcW wb w J g q
 wrd : ∀ a, A = some a → SlS w wb.heap.size w.heap.size a k T
section
variable {wb w w' : World} {g : Option Nat} {q : Option (Option Addr × Nat × Nat)} {J T : List ByteArray} {A : Option (Option Addr)} {k : Nat}
theorem RlsW.below (h : RlsW wb w g q J A k T) : Below wb.heap.size wb w := h.alc.below
theorem RlsW.start (wb : World) (J T : List ByteArray) (k : Nat) : RlsW wb wb none none J none k T := ⟨AlcW.start wb J, fun a e => by cases e⟩
theorem RlsW.drew (h : RlsW wb w g q J A k T) : RlsW wb w.drew g q J A k T := ⟨h.alc.drew, fun a e => Sl.keep (h.wrd a e) zR fun _ _ _ _ => rfl⟩
theorem RlsW.lit (h : RlsW wb w g none J A k T) (x : ByteArray) : RlsW wb (w.alloc (.cells #[.string x] 9)) g (some (some ⟨w.heap.size, 0, none⟩, 1, 1)) [x] A k T := by
 have hb : Below w.heap.size w (w.alloc (.cells #[.string x] 9)) := bR.alloc zR _;have h1 := h.alc.below.size;refine ⟨⟨h.alc.below.trans (hb.mono h1), fun b e => ⟨(h.alc.box b e).1, (h.alc.box b e).2.below hb (h.alc.box b e).2.lt⟩, fun r e => ?_⟩, fun a e => ((h.wrd a e).below hb (.inl zR)).more zR hb.size⟩
 cases e
 refine ⟨Own.litL (heap_alloc_new w _) rfl h1, fun b e2 e3 => ?_⟩;have h2 := (h.alc.box b e2).2.lt;have e3 : some b = some w.heap.size := e3;injection e3 with e3;omega
theorem RlsW.call (h : RlsW wb w g q J none k T) {a : Option Addr} (hb : Below w.heap.size w w') (hs : SlS w' w.heap.size w'.heap.size a k T) : RlsW wb w' g q J (some a) k T :=
 ⟨h.alc.keep hb, fun b e => by cases e; exact hs.more h.alc.below.size zR⟩
theorem RlsW.boxed (h : RlsW wb w none q J A k T) : RlsW wb (w.alloc (.cells #[.int .i64 0, .int .i64 0, .slice none 0 0, .slice none 0 0] 27)) (some w.heap.size) q J A k T :=
 ⟨h.alc.alloc, fun a e => ((h.wrd a e).below (bR.alloc zR _) (.inl zR)).more zR (by rw [World.size_alloc]; omega)⟩
theorem RlsW.app {B A' : Option Addr} {n c c' : Nat} {J' : List ByteArray} (h : RlsW wb w g (some (B, n, c)) J A k T) (hg : w.grownBy w' (Value.slice B n c).ownBlock) (ho : Own 1 strv w' wb.heap.size 9 A' (n + k) c' J')
  (hat : (Value.slice A' (n + k) c').ownBlock = (Value.slice B n c).ownBlock ∨ (Value.slice A' (n + k) c').ownBlock = some w.heap.size) : RlsW wb w' g (some (A', n + k, c')) J' none k T := by
 obtain ⟨h1, h2⟩ := h.alc.lab _ rfl;refine ⟨⟨h.alc.below.grown hg h.alc.below.size fun q e => (h1.lt q e).1, fun b e => ⟨(h.alc.box b e).1, (h.alc.box b e).2.grown hg (h2 b e)⟩, fun r e => ?_⟩, fun a e => by cases e⟩
 cases e
 refine ⟨ho, fun b e2 e3 => ?_⟩
 rcases hat with e | e
 ·exact h2 b e2 (e3.trans e)
 ·have := (h.alc.box b e2).2.lt
  have e4 := e3.trans e;injection e4 with e4;omega
theorem RlsW.fill {b : Nat} {A' : Option Addr} {n c : Nat} (h : RlsW wb w (some b) (some (A', n, c)) J A k T) (s i x : Value) : wb.heap.size ≤ b ∧ (put4 w b s i (.slice A' n c) x).heap[b]? = some (.cells #[s, i, .slice A' n c, x] 27 (0, 0)) ∧ SlS (put4 w b s i (.slice A' n c) x) wb.heap.size (put4 w b s i (.slice A' n c) x).heap.size A' n J ∧ Below wb.heap.size wb (put4 w b s i (.slice A' n c) x) ∧ n ≤ c := by
 obtain ⟨hg, hx⟩ := h.alc.box b rfl;obtain ⟨hl, hne⟩ := h.alc.lab _ rfl;have hne := hne b rfl;have x0 : (w.setCell ⟨b, 0, none⟩ s).heap[b]? = _ := heap_setCell_same w b 0 _ _ _ hx;have x1 := heap_setCell_same _ b 1 _ _ i x0;have x2 := heap_setCell_same _ b 2 _ _ (.slice A' n c) x1;have x3 := heap_setCell_same _ b 3 _ _ x x2;refine ⟨hg, x3, ?_, put4_belU h.alc.below hg s i (.slice A' n c) x, hl.le_cap⟩;exact ((((hl.asideL (j := 0) hne s).asideL (j := 1) hne i).asideL (j := 2) hne (.slice A' n c)).asideL (j := 3) hne x).sl flat_strv
end
structure P3 (w : World) (g o : Nat) (x0 x1 x2 : ByteArray) : Prop where
 lt : g < w.heap.size
 c0 : w.cell? ⟨g, o, none⟩ = some (.string x0)
 c1 : w.cell? ⟨g, o + 1, none⟩ = some (.string x1)
 c2 : w.cell? ⟨g, o + 2, none⟩ = some (.string x2)
 f0 : w.frozen? ⟨g, o, none⟩ = false
 f1 : w.frozen? ⟨g, o + 1, none⟩ = false
 f2 : w.frozen? ⟨g, o + 2, none⟩ = false
section
variable {w w' : World} {g o : Nat} {x0 x1 x2 : ByteArray}
theorem P3.below (h : P3 w g o x0 x1 x2) (hb : Below w.heap.size w w') : P3 w' g o x0 x1 x2 :=
 ⟨Nat.lt_of_lt_of_le h.lt hb.size, (hb.cell (p := ⟨g, o, none⟩) h.lt).trans h.c0, (hb.cell (p := ⟨g, o + 1, none⟩) h.lt).trans h.c1, (hb.cell (p := ⟨g, o + 2, none⟩) h.lt).trans h.c2,
  (hb.frozen (p := ⟨g, o, none⟩) h.lt).trans h.f0, (hb.frozen (p := ⟨g, o + 1, none⟩) h.lt).trans h.f1, (hb.frozen (p := ⟨g, o + 2, none⟩) h.lt).trans h.f2⟩
theorem P3.set1 (h : P3 w g o x0 x1 x2) (y : ByteArray) : P3 (w.setCell ⟨g, o + 1, none⟩ (.string y)) g o x0 y x2 := by
 have k0 := h.c0;have k1 := h.c1;have k2 := h.c2;have f0 := h.f0;have f1 := h.f1;have f2 := h.f2;refine ⟨by simpa using h.lt, ?_, ?_, ?_, ?_, ?_, ?_⟩ <;> go_simp
theorem P3.set2 (h : P3 w g o x0 x1 x2) (y : ByteArray) : P3 (w.setCell ⟨g, o + 2, none⟩ (.string y)) g o x0 x1 y := by
 have k0 := h.c0;have k1 := h.c1;have k2 := h.c2;have f0 := h.f0;have f1 := h.f1;have f2 := h.f2;refine ⟨by simpa using h.lt, ?_, ?_, ?_, ?_, ?_, ?_⟩ <;> go_simp
end
theorem dash_eq (u : List UInt8) : ((mkB u).toList == [45]) = decide (u = [45]) := by
 by_cases h : u = [45]
 ·rw [h, show (mkB [45]).toList = [45] from ByteArray.toList_mk _]; rfl
 ·rw [decide_eq_false h]
  have := str_neq (a := mkB u) (b := mkB [45]) (fun e => h (mkB_inj e));rw [show (mkB [45]).toList = [45] from ByteArray.toList_mk _] at this;exact this
def DashW (w1 : World) (g o : Nat) (p0 p1 p2 : List UInt8) (v : Value) (wr : World) : Prop :=
 ∃ k : Nat, (k = 1 ∨ k = 2 ∨ k = 3) ∧ v = .int .i64 (k : Int) ∧ P3 wr g o (mkB p0) (mkB (if 1 < k then undash p1 else p1)) (mkB (if 2 < k then undash p2 else p2)) ∧ Below w1.heap.size w1 wr
section
variable {N ini n m : Nat} {ls : List ByteArray} {es : List Ed}
theorem readLts_calls (hN : N ≤ 40) (hini : ini < N) (hnam : NamD ls) (hv : ltsV ((N : Int), (ini : Int), ls, es) = true) (hz : totS ls ≤ 100000) (hll : ls.length = n) (hle : es.length = m) (w : World) (he : Env w) :
  Calls Tryz.prog 12 #[.string (mkB (ltsTL N ini ls es))] w fun e w' => ∃ A c B d, e = .returned (.tuple #[.agg #[.int .i64 (N : Int), .int .i64 (ini : Int), .slice A n c, .slice B m d], .bool true]) ∧ SysA w' N ini A n B m ls es ∧ Below w.heap.size w w' := by
 have hEs := hide elem_str;have hnm := ltsV_names hv;have hnl : ls.length ≤ 12 := by
  have h3 := hnm.1;unfold namesB at h3;rw [Bool.and_eq_true] at h3;have h5 := inB_true.1 h3.1;omega
 have hn1 : 1 ≤ n := by
  have := (List.getElem?_eq_some_iff.1 (labs_zero hnm.1)).1;omega
 have hn12 : n ≤ 12 := by omega
 have hes : ∀ e, e ∈ es → EdS e := fun e hm => by
  have := (ltsV_edge hv).1 e hm;unfold EdS;omega
 have hw1 := nms_word hnam hnm.1;have hw2 := eds_word hes;have hlen := ltsTL_len (show N < 301 by omega) (show ini < 301 by omega) hnam hnm.1 hnl hes hnm.2;have hsp := ltsTL_split (show N < 301 by omega) (show ini < 301 by omega) hw1 (by rw [← edB_data]; exact hw2);have hd1 := undash_words hw1;have hd2 := undash_words hw2;rw [edB_data] at hd2;obtain ⟨p0, hp0⟩ : ∃ p, p = Lib.join [Lib.itoa (N : Int), Lib.itoa (ini : Int)] [32] := ⟨_, rfl⟩;obtain ⟨p1, hp1⟩ : ∃ p, p = wordsL (dataL ls.tail) := ⟨_, rfl⟩;obtain ⟨p2, hp2⟩ : ∃ p, p = wordsL (es.map edT) := ⟨_, rfl⟩;rw [← hp0, ← hp1, ← hp2] at hsp;rw [← hp1] at hd1;rw [← hp2] at hd2;have hl0 : p0.length ≤ 1000 := by
  have h1 := (itoa_ok N (by omega)).2.2.2;have h2 := (itoa_ok ini (by omega)).2.2.2;rw [hp0, head_words];simp only [List.length_append, List.length_cons, List.length_nil];omega
 have hl1 : (undash p1).length ≤ 10000 ∧ p1.length ≤ 10000 := by
  have h1 : p1.length ≤ (ltsTL N ini ls es).length := by
   rw [hp1];unfold ltsTL;simp only [List.length_append];omega
  unfold undash
  split <;> simp <;> omega
 have hl2 : p2.length ≤ 10000 := by
  have h1 : p2.length ≤ (ltsTL N ini ls es).length := by
   rw [hp2];unfold ltsTL;simp only [List.length_append];omega
  omega
 obtain ⟨s, hs⟩ : ∃ s, s = mkB (ltsTL N ini ls es) := ⟨_, rfl⟩;have hsz : s.size ≤ 1048576 := by rw [hs, mkB_size]; omega
 have hsd : splitC 124 s.data.toList = [p0, p1, p2] := by rw [hs]; exact hsp
 rw [← hs];have hb0 : Below w.heap.size w (w.alloc (.cells #[.int .i64 0, .int .i64 0, .slice none 0 0, .slice none 0 0] 27)) := bR.alloc zR _;have kR := heap_alloc_new w (.cells #[.int .i64 0, .int .i64 0, .slice none 0 0, .slice none 0 0] 27);obtain ⟨w1, hw1e⟩ : ∃ w1, w1 = w.alloc (.cells #[.int .i64 0, .int .i64 0, .slice none 0 0, .slice none 0 0] 27) := ⟨_, rfl⟩;rw [← hw1e] at hb0 kR;have hz1 : w1.heap.size = w.heap.size + 1 := by rw [hw1e]; exact World.size_alloc _ _
 have he1 := hide (he.below hb0 zR);have q0 := splitD_calls 124 s w1 hsz he1.out;rw [hsd] at q0;have hlt : (tauB :: ls.tail) = ls := names_tail hnm.1;have hTl : Hid (ls.tail.length = n - 1) := by show _ = _; rw [List.length_tail, hll]
 replace q0 := hide q0;replace hw1 := hide hw1;replace hw2 := hide hw2;replace hes := hide hes;replace hnm := hide hnm;replace hsp := hide hsp;replace hd1 := hide hd1;replace hd2 := hide hd2;replace hp0 := hide hp0;replace hp1 := hide hp1;replace hp2 := hide hp2;replace hs := hide hs;replace hsd := hide hsd;replace hv := hide hv;replace hz := hide hz;replace hll := hide hll;replace hle := hide hle;replace hlt := hide hlt;replace hnam := hide hnam;replace hb0 := hide hb0;replace kR := hide kR;replace hz1 := hide hz1;clear he;go_enter Tryz.func12, Tryz.ntmps12;go_upto_region 1 with fail;rw [← show w1 = _ from hw1e];replace hw1e := hide hw1e;go_wp2_with fail;refine q0.out.mono ?_;rintro e w2 ⟨A2, n2, PB, rfl, hS2, hd2x, hn2, hz2, hb2⟩;have hPB : PB = [mkB p0, mkB p1, mkB p2] := by rw [← mkB_dataL PB, hd2x]; rfl
 subst hPB;obtain rfl : n2 = 3 := hS2.len.symm;obtain ⟨g2, o2, rfl, hg2a, -, hg2, hc2⟩ := hS2.at_ (by omega);have hP2 : P3 w2 g2 o2 (mkB p0) (mkB p1) (mkB p2) := by
  have a0 := hc2 0 (mkB p0) rfl 0 _ rfl;have a1 := hc2 1 (mkB p1) rfl 0 _ rfl;have a2 := hc2 2 (mkB p2) rfl 0 _ rfl;exact ⟨hg2, a0.1, a1.1, a2.1, a0.2, a1.2, a2.2⟩
 replace hP2 := hide hP2;have hz12 := hb2.size;replace hb2 := hide hb2;clear q0 hS2 hd2x hz2 hc2 hn2;go_wp2_with fail
 go_loopw [5] (fun v5 wr => Hid (DashW w1 g2 o2 p0 p1 p2 v5 wr)) (fun v5 _ => 3 - (intOf v5).toNat)
 case atStart => exact ⟨1, .inl rfl, rfl, by simpa using hP2.out, hb2.out⟩
 case round =>
  have hrel := hrel.out;unfold DashW at hrel;obtain ⟨k, hk, rfl, hP, hb⟩ := hrel;replace hb := hide hb
  rcases hk with rfl | rfl | rfl
  ·simp only [show ¬ (1 : Nat) < 1 from by omega, show ¬ (2 : Nat) < 1 from by omega, if_false] at hP
   have c1 := hP.c1;have f1 := hP.f1;have hde := dash_eq p1
   by_cases hdd : p1 = [45]
   ·rw [decide_eq_true hdd] at hde
    have hun : (⟨#[]⟩ : ByteArray) = mkB (undash p1) := by unfold undash; rw [if_pos hdd]; rfl
    have hPn := hide (show P3 (wr.setCell ⟨g2, o2 + 1, none⟩ (.string (⟨#[]⟩ : ByteArray))) g2 o2 (mkB p0) (mkB (undash p1)) (mkB p2) from by have h9 := hP.set1 (⟨#[]⟩ : ByteArray); exact (congrArg (fun y => P3 (wr.setCell ⟨g2, o2 + 1, none⟩ (.string (⟨#[]⟩ : ByteArray))) g2 o2 (mkB p0) y (mkB p2)) hun).mp h9);clear hun;replace hP := hide hP;replace hdd := hide hdd;go_wp2_with fail;go_roundw
    case rel =>
     refine hide ⟨2, .inr (.inl rfl), by go_num, ?_, hb.out.setCell hg2a _⟩
     simpa using hPn.out
    case measure => simp [intOf]
   ·rw [decide_eq_false hdd] at hde
    have hun : Hid (p1 = undash p1) := by show _ = _; unfold undash; rw [if_neg hdd]
    replace hP := hide hP;replace hdd := hide hdd;go_wp2_with fail;go_roundw
    case rel =>
     refine hide ⟨2, .inr (.inl rfl), by go_num, ?_, hb.out⟩;have := hP.out;rw [hun.out] at this
     simpa using this
    case measure => simp [intOf]
  ·simp only [show (1 : Nat) < 2 from by omega, show ¬ (2 : Nat) < 2 from by omega, if_true, if_false] at hP
   have c2 := hP.c2;have f2 := hP.f2;have hde := dash_eq p2
   by_cases hdd : p2 = [45]
   ·rw [decide_eq_true hdd] at hde
    have hun : (⟨#[]⟩ : ByteArray) = mkB (undash p2) := by unfold undash; rw [if_pos hdd]; rfl
    have hPn := hide (show P3 (wr.setCell ⟨g2, o2 + 2, none⟩ (.string (⟨#[]⟩ : ByteArray))) g2 o2 (mkB p0) (mkB (undash p1)) (mkB (undash p2)) from by have h9 := hP.set2 (⟨#[]⟩ : ByteArray); exact (congrArg (fun y => P3 (wr.setCell ⟨g2, o2 + 2, none⟩ (.string (⟨#[]⟩ : ByteArray))) g2 o2 (mkB p0) (mkB (undash p1)) y) hun).mp h9);clear hun;replace hP := hide hP;replace hdd := hide hdd;go_wp2_with fail;go_roundw
    case rel =>
     refine hide ⟨3, .inr (.inr rfl), by go_num, ?_, hb.out.setCell hg2a _⟩
     simpa using hPn.out
    case measure => simp [intOf]
   ·rw [decide_eq_false hdd] at hde
    have hun : Hid (p2 = undash p2) := by show _ = _; unfold undash; rw [if_neg hdd]
    replace hP := hide hP;replace hdd := hide hdd;go_wp2_with fail;go_roundw
    case rel =>
     refine hide ⟨3, .inr (.inr rfl), by go_num, ?_, hb.out⟩;have := hP.out;rw [hun.out] at this
     simpa using this
    case measure => simp [intOf]
  ·simp only [show (1 : Nat) < 3 from by omega, show (2 : Nat) < 3 from by omega, if_true] at hP
   rw [hd1.out, hd2.out] at hP;have hz1r := hb.out.size;have hP0 := hide hP;have c0 := hP.c0;have q1 := splitWords_calls (mkB p0) (by rw [mkB_size]; omega) wr;rw [hp0.out, head_fields (by omega) (by omega), ← hp0.out] at q1;replace q1 := hide q1;clear hP hP2 hb2;go_wp2_with fail;refine q1.out.mono ?_;rintro e w4 ⟨A4, rfl, hS4, hb4⟩;have hbr4 := hide (hb.out.trans (hb4.mono hz1r));have q2 := readNumbers_calls _ 2 2 _ w4 _ _ hS4 (by omega) (fun x hx => by
    simp only [List.mem_cons, List.not_mem_nil, or_false] at hx
    rcases hx with rfl | rfl
    ·rw [mkB_size]; have := (itoa_ok N (by omega)).2.2.2; omega
    ·rw [mkB_size]; have := (itoa_ok ini (by omega)).2.2.2; omega) (he1.out.below hbr4.out zR)
   rw [head_nums (by omega) (by omega)] at q2;have q2 : Hid (Calls Tryz.prog 51 #[.slice (some ⟨A4, 0, none⟩) 2 2] w4 fun e w' => (∃ A c, e = .returned (.tuple #[.slice A 2 c, .bool true]) ∧ SlI w' w4.heap.size w'.heap.size A 2 [(N : Int), (ini : Int)]) ∧ Below w4.heap.size w4 w') := q2;have hP4 := hide (hP0.out.below hb4);have hz4 := hb4.size;clear q1 hS4 hb4 c0 hP0 hb;go_wp2_with fail;refine q2.out.mono ?_;rintro e w5 ⟨⟨A5, c5, rfl, hS5⟩, hb5⟩;have hbr5 := hide (hbr4.out.trans (hb5.mono hbr4.out.size));have hP5 := hide (hP4.out.below hb5);have hz5 := hb5.size;have c2 := hP5.out.c2;have q3 := readEdges_calls es hes.out hnm.out.2 w5 (he1.out.below hbr5.out zR);rw [hle.out] at q3;replace q3 := hide q3;obtain ⟨g5, o5, rfl, hg5a, -, hg5, hc5⟩ := hS5.at_ (by omega);have y0 : w5.cell? ⟨g5, o5, none⟩ = some (.int .i64 (N : Int)) := (hc5 0 (N : Int) rfl 0 _ rfl).1;have y1 : w5.cell? ⟨g5, o5 + 1, none⟩ = some (.int .i64 (ini : Int)) := (hc5 1 (ini : Int) rfl 0 _ rfl).1;replace y0 := hide y0;replace y1 := hide y1;replace hS5 := hide hS5;replace hc5 := hide hc5;clear q2 hb5;go_wp2_with fail;refine q3.out.mono ?_;rintro e w6 ⟨A6, c6, rfl, hS6, hb6⟩;have hbr6 := hide (hbr5.out.trans (hb6.mono hbr5.out.size));have hP6 := hide (hP5.out.below hb6);have hz6 := hb6.size;have v0 := (hb6.cell (p := ⟨g5, o5, none⟩) hg5).trans y0.out;have v1 := (hb6.cell (p := ⟨g5, o5 + 1, none⟩) hg5).trans y1.out;have v2 := hP6.out.c1;have hSS : Hid (∀ wx, Below w6.heap.size w6 wx → (fun w' : World => w'.cell? ⟨g5, o5, none⟩ = some (.int .i64 (N : Int)) ∧ w'.cell? ⟨g5, o5 + 1, none⟩ = some (.int .i64 (ini : Int)) ∧ w'.cell? ⟨g2, o2 + 1, none⟩ = some (.string (mkB (Lib.join (dataL ls.tail) [32])))) wx) := fun wx hx => ⟨(hx.cell (p := ⟨g5, o5, none⟩) (by show g5 < _; omega)).trans v0, (hx.cell (p := ⟨g5, o5 + 1, none⟩) (by show g5 < _; omega)).trans v1, (hx.cell (p := ⟨g2, o2 + 1, none⟩) hP6.out.lt).trans v2⟩
   have q4 : Hid (∀ W, Calls Tryz.prog 52 #[.string (mkB (Lib.join (dataL ls.tail) [32]))] W fun e w' => ∃ A, e = .returned (.slice A (n - 1) (n - 1)) ∧ SlS w' W.heap.size w'.heap.size A (n - 1) ls.tail ∧ Below W.heap.size W w') := fun W => by
    have q := splitWords_calls (mkB (Lib.join (dataL ls.tail) [32])) (by rw [mkB_size, ← hd1.out]; omega) W;rw [words_fields hw1.out, hTl.out] at q;exact q.mono fun e w' ⟨A, h1, h2, h3⟩ => ⟨_, h1, h2, h3⟩
   replace hS6 := hide hS6;have hst : Hid ([(⟨#[116, 97, 117]⟩ : ByteArray)] ++ ls.tail = ls) := hlt.out;have hn1n : 1 + (n - 1) = n := by omega
   have hsz3 : (1 + (n - 1)) * 16 ≤ 140737488355328 := by omega
   have hza6 : w6.heap.size ≤ w6.heap.size := zR;clear q3 c2 y0 y1 v0 v1 v2;go_upto_region 13 with fail
   go_cut [10] (fun v10 wx => ∃ b AL cL, v10 = .pointer (some ⟨b, 0, none⟩) ∧ Hid (w6.heap.size ≤ b ∧ LtsBox wx b (N : Int) (ini : Int) AL n cL A6 m c6 ∧ SlS wx w6.heap.size wx.heap.size AL n ls ∧ Below w6.heap.size w6 wx ∧ n ≤ cL))
   case first =>
    refine lateT_begin (S := fun w' => w'.cell? ⟨g5, o5, none⟩ = some (.int .i64 (N : Int)) ∧ w'.cell? ⟨g5, o5 + 1, none⟩ = some (.int .i64 (ini : Int)) ∧ w'.cell? ⟨g2, o2 + 1, none⟩ = some (.string (mkB (Lib.join (dataL ls.tail) [32])))) (st := 15) (by kernel_rfl) ?_;have hD := (RlsW.start w6 [] ls.tail (n - 1)).drew;generalize w6.drew = wA at *;have hS0 := hSS.out _ hD.below;refine tkA _ 0 [15] rfl (Or.inl ⟨by kernel_rfl, by intro w' hSw; (try dsimp only at hSw); (obtain ⟨hq0, hq1, hq2⟩ := hSw); go_simp <;> with_reducible rfl⟩) hS0 ?_;refine tkA _ 1 [15] rfl (Or.inl ⟨by kernel_rfl, by intro w' hSw; (try dsimp only at hSw); (obtain ⟨hq0, hq1, hq2⟩ := hSw); go_simp <;> with_reducible rfl⟩) hS0 ?_;refine tkA _ 2 [15] rfl (Or.inl ⟨by kernel_rfl, by intro w' hSw; (try dsimp only at hSw); (obtain ⟨hq0, hq1, hq2⟩ := hSw); go_simp <;> with_reducible rfl⟩) hS0 ?_;refine tkA _ 3 [15] rfl (Or.inl ⟨by kernel_rfl, by intro w' hSw; (try dsimp only at hSw); (obtain ⟨hq0, hq1, hq2⟩ := hSw); go_simp <;> with_reducible rfl⟩) hS0 ?_;refine tkA _ 4 [15] rfl (Or.inl ⟨by kernel_rfl, by intro w' hSw; (try dsimp only at hSw); (obtain ⟨hq0, hq1, hq2⟩ := hSw); go_simp <;> with_reducible rfl⟩) hS0 ?_;refine tkA _ 5 [15] rfl (Or.inl ⟨by kernel_rfl, by intro w' hSw; (try dsimp only at hSw); (obtain ⟨hq0, hq1, hq2⟩ := hSw); go_simp <;> with_reducible rfl⟩) hS0 ?_;refine tkA _ 7 [15] rfl (Or.inl ⟨by kernel_rfl, by intro w' hSw; (try dsimp only at hSw); (obtain ⟨hq0, hq1, hq2⟩ := hSw); go_simp <;> with_reducible rfl⟩) hS0 ?_;refine tkA _ 8 [15] rfl (Or.inl ⟨by kernel_rfl, by intro w' hSw; (try dsimp only at hSw); (obtain ⟨hq0, hq1, hq2⟩ := hSw); go_simp <;> with_reducible rfl⟩) hS0 ?_;refine tkA _ 9 [15] rfl (Or.inl ⟨by kernel_rfl, by intro w' hSw; (try dsimp only at hSw); (obtain ⟨hq0, hq1, hq2⟩ := hSw); go_simp <;> with_reducible rfl⟩) hS0 ?_;refine tkA _ 12 [15] rfl (Or.inl ⟨by kernel_rfl, by intro w' hSw; (try dsimp only at hSw); (obtain ⟨hq0, hq1, hq2⟩ := hSw); go_simp <;> with_reducible rfl⟩) hS0 ?_;refine lateT_threeR (i := 6) (j := 10) (k := 14) (by kernel_rfl) rfl rfl rfl (fun K hK => ?_) (fun K hK => ?_) (fun K hK => ?_)
    ·go_simp
     replace hD := hD.lit (⟨#[116, 97, 117]⟩ : ByteArray);refine hK.out _ (wA.alloc (.cells #[.string (⟨#[116, 97, 117]⟩ : ByteArray)] 9)) (fun _ => hSS.out _ hD.below) ?_;clear hK K;(try simp only [Act.put, sA, sB, sC]);generalize wA.alloc (.cells #[.string (⟨#[116, 97, 117]⟩ : ByteArray)] 9) = wA at *;refine lateT_two (i := 10) (j := 14) (by kernel_rfl) rfl rfl (fun K hK => ?_) (fun K hK => ?_)
     ·go_simp
      go_at_call 52; (with_reducible refine (q4.out _).mono ?_); rintro e wA ⟨A7, rfl, hs7, hb7⟩;replace hD := hD.call hb7 hs7;clear hs7 hb7
      (try go_wp2_with fail)
      refine kP hK (fun _ => hSS.out _ hD.below) ?_;clear hK K;refine lateT_two (i := 11) (j := 14) (by kernel_rfl) rfl rfl (fun K hK => ?_) (fun K hK => ?_)
      ·have hLb := hD.alc.lab _ rfl
       have hWd := hD.wrd _ rfl;refine step_appL (m := n - 1) (d := n - 1) (by rfl) (.tmp 62) (.tmp 66) (by rfl) hEs.out flat_strv (by go_simp) hLb.1 (by go_simp) hWd hsz3 hD.below.size ?_;intro A8 c8 wA hown8 hgr8 hb8 hat8;rw [hst.out] at hown8;replace hD := hD.app hgr8 hown8 hat8;clear hown8 hgr8 hb8 hat8 hLb hWd;refine kP hK (fun _ => hSS.out _ hD.below) ?_;clear hK K;refine lateT_two (i := 13) (j := 14) (by kernel_rfl) rfl rfl (fun K hK => ?_) (fun K hK => ?_)
       ·go_simp
        refine kP hK (fun _ => hSS.out _ hD.below) ?_;clear hK K;refine lS 14 fun K hK => ?_
        go_simp;replace hD := hD.boxed
        refine hK.out _ (wA.alloc (.cells #[.int .i64 0, .int .i64 0, .slice none 0 0, .slice none 0 0] 27)) (fun _ => hSS.out _ hD.below) ?_;clear hK K;(try simp only [Act.put, sA, sB, sC]);generalize wA.alloc (.cells #[.int .i64 0, .int .i64 0, .slice none 0 0, .slice none 0 0] 27) = wA at *;refine lS 15 fun K hK => ?_
        have hbx := (hD.alc.box _ rfl).2;have z0 := hbx.c0;have z1 := hbx.c1;have z2 := hbx.c2;have z3 := hbx.c3;have f0 := hbx.f0;have f1 := hbx.f1;have f2 := hbx.f2;have f3 := hbx.f3;go_simp;refine kP hK nH ?_;clear hK K;refine lateT_done (by kernel_rfl) ?_ _;have hM := hD.fill (.int .i64 (N : Int)) (.int .i64 (ini : Int)) (.slice A6 m c6);rw [hn1n] at hM;go_wp2_with fail;go_meet;exact ⟨_, _, _, rfl, hide hM⟩
       ·go_simp
        replace hD := hD.boxed;refine hK.out _ (wA.alloc (.cells #[.int .i64 0, .int .i64 0, .slice none 0 0, .slice none 0 0] 27)) (fun _ => hSS.out _ hD.below) ?_;clear hK K;(try simp only [Act.put, sA, sB, sC]);generalize wA.alloc (.cells #[.int .i64 0, .int .i64 0, .slice none 0 0, .slice none 0 0] 27) = wA at *;refine lS 13 fun K hK => ?_
        go_simp;refine kP hK (fun _ => hSS.out _ hD.below) ?_
        clear hK K;refine lS 15 fun K hK => ?_
        have hbx := (hD.alc.box _ rfl).2;have z0 := hbx.c0;have z1 := hbx.c1;have z2 := hbx.c2;have z3 := hbx.c3;have f0 := hbx.f0;have f1 := hbx.f1;have f2 := hbx.f2;have f3 := hbx.f3;go_simp;refine kP hK nH ?_;clear hK K;refine lateT_done (by kernel_rfl) ?_ _;have hM := hD.fill (.int .i64 (N : Int)) (.int .i64 (ini : Int)) (.slice A6 m c6);rw [hn1n] at hM;go_wp2_with fail;go_meet;exact ⟨_, _, _, rfl, hide hM⟩
      ·go_simp
       replace hD := hD.boxed;refine hK.out _ (wA.alloc (.cells #[.int .i64 0, .int .i64 0, .slice none 0 0, .slice none 0 0] 27)) (fun _ => hSS.out _ hD.below) ?_;clear hK K;(try simp only [Act.put, sA, sB, sC]);generalize wA.alloc (.cells #[.int .i64 0, .int .i64 0, .slice none 0 0, .slice none 0 0] 27) = wA at *;refine lS 11 fun K hK => ?_
       have hLb := hD.alc.lab _ rfl;have hWd := hD.wrd _ rfl;refine step_appL (m := n - 1) (d := n - 1) (by rfl) (.tmp 62) (.tmp 66) (by rfl) hEs.out flat_strv (by go_simp) hLb.1 (by go_simp) hWd hsz3 hD.below.size ?_;intro A8 c8 wA hown8 hgr8 hb8 hat8;rw [hst.out] at hown8;replace hD := hD.app hgr8 hown8 hat8;clear hown8 hgr8 hb8 hat8 hLb hWd;refine kP hK (fun _ => hSS.out _ hD.below) ?_;clear hK K;refine lS 13 fun K hK => ?_
       go_simp;refine kP hK (fun _ => hSS.out _ hD.below) ?_
       clear hK K;refine lS 15 fun K hK => ?_
       have hbx := (hD.alc.box _ rfl).2;have z0 := hbx.c0;have z1 := hbx.c1;have z2 := hbx.c2;have z3 := hbx.c3;have f0 := hbx.f0;have f1 := hbx.f1;have f2 := hbx.f2;have f3 := hbx.f3;go_simp;refine kP hK nH ?_;clear hK K;refine lateT_done (by kernel_rfl) ?_ _;have hM := hD.fill (.int .i64 (N : Int)) (.int .i64 (ini : Int)) (.slice A6 m c6);rw [hn1n] at hM;go_wp2_with fail;go_meet;exact ⟨_, _, _, rfl, hide hM⟩
     ·go_simp
      replace hD := hD.boxed;refine hK.out _ (wA.alloc (.cells #[.int .i64 0, .int .i64 0, .slice none 0 0, .slice none 0 0] 27)) (fun _ => hSS.out _ hD.below) ?_;clear hK K;(try simp only [Act.put, sA, sB, sC]);generalize wA.alloc (.cells #[.int .i64 0, .int .i64 0, .slice none 0 0, .slice none 0 0] 27) = wA at *;refine lS 10 fun K hK => ?_
      go_simp;go_at_call 52; (with_reducible refine (q4.out _).mono ?_); rintro e wA ⟨A7, rfl, hs7, hb7⟩
      replace hD := hD.call hb7 hs7;clear hs7 hb7
      (try go_wp2_with fail)
      refine kP hK (fun _ => hSS.out _ hD.below) ?_;clear hK K;refine lS 11 fun K hK => ?_
      have hLb := hD.alc.lab _ rfl;have hWd := hD.wrd _ rfl;refine step_appL (m := n - 1) (d := n - 1) (by rfl) (.tmp 62) (.tmp 66) (by rfl) hEs.out flat_strv (by go_simp) hLb.1 (by go_simp) hWd hsz3 hD.below.size ?_;intro A8 c8 wA hown8 hgr8 hb8 hat8;rw [hst.out] at hown8;replace hD := hD.app hgr8 hown8 hat8;clear hown8 hgr8 hb8 hat8 hLb hWd;refine kP hK (fun _ => hSS.out _ hD.below) ?_;clear hK K;refine lS 13 fun K hK => ?_
      go_simp;refine kP hK (fun _ => hSS.out _ hD.below) ?_
      clear hK K;refine lS 15 fun K hK => ?_
      have hbx := (hD.alc.box _ rfl).2;have z0 := hbx.c0;have z1 := hbx.c1;have z2 := hbx.c2;have z3 := hbx.c3;have f0 := hbx.f0;have f1 := hbx.f1;have f2 := hbx.f2;have f3 := hbx.f3;go_simp;refine kP hK nH ?_;clear hK K;refine lateT_done (by kernel_rfl) ?_ _;have hM := hD.fill (.int .i64 (N : Int)) (.int .i64 (ini : Int)) (.slice A6 m c6);rw [hn1n] at hM;go_wp2_with fail;go_meet;exact ⟨_, _, _, rfl, hide hM⟩
    ·go_simp
     go_at_call 52; (with_reducible refine (q4.out _).mono ?_); rintro e wA ⟨A7, rfl, hs7, hb7⟩;replace hD := hD.call hb7 hs7;clear hs7 hb7
     (try go_wp2_with fail)
     refine kP hK (fun _ => hSS.out _ hD.below) ?_;clear hK K;refine lateT_two (i := 6) (j := 14) (by kernel_rfl) rfl rfl (fun K hK => ?_) (fun K hK => ?_)
     ·go_simp
      replace hD := hD.lit (⟨#[116, 97, 117]⟩ : ByteArray);refine hK.out _ (wA.alloc (.cells #[.string (⟨#[116, 97, 117]⟩ : ByteArray)] 9)) (fun _ => hSS.out _ hD.below) ?_;clear hK K;(try simp only [Act.put, sA, sB, sC]);generalize wA.alloc (.cells #[.string (⟨#[116, 97, 117]⟩ : ByteArray)] 9) = wA at *;refine lateT_two (i := 11) (j := 14) (by kernel_rfl) rfl rfl (fun K hK => ?_) (fun K hK => ?_)
      ·have hLb := hD.alc.lab _ rfl
       have hWd := hD.wrd _ rfl;refine step_appL (m := n - 1) (d := n - 1) (by rfl) (.tmp 62) (.tmp 66) (by rfl) hEs.out flat_strv (by go_simp) hLb.1 (by go_simp) hWd hsz3 hD.below.size ?_;intro A8 c8 wA hown8 hgr8 hb8 hat8;rw [hst.out] at hown8;replace hD := hD.app hgr8 hown8 hat8;clear hown8 hgr8 hb8 hat8 hLb hWd;refine kP hK (fun _ => hSS.out _ hD.below) ?_;clear hK K;refine lateT_two (i := 13) (j := 14) (by kernel_rfl) rfl rfl (fun K hK => ?_) (fun K hK => ?_)
       ·go_simp
        refine kP hK (fun _ => hSS.out _ hD.below) ?_;clear hK K;refine lS 14 fun K hK => ?_
        go_simp;replace hD := hD.boxed
        refine hK.out _ (wA.alloc (.cells #[.int .i64 0, .int .i64 0, .slice none 0 0, .slice none 0 0] 27)) (fun _ => hSS.out _ hD.below) ?_;clear hK K;(try simp only [Act.put, sA, sB, sC]);generalize wA.alloc (.cells #[.int .i64 0, .int .i64 0, .slice none 0 0, .slice none 0 0] 27) = wA at *;refine lS 15 fun K hK => ?_
        have hbx := (hD.alc.box _ rfl).2;have z0 := hbx.c0;have z1 := hbx.c1;have z2 := hbx.c2;have z3 := hbx.c3;have f0 := hbx.f0;have f1 := hbx.f1;have f2 := hbx.f2;have f3 := hbx.f3;go_simp;refine kP hK nH ?_;clear hK K;refine lateT_done (by kernel_rfl) ?_ _;have hM := hD.fill (.int .i64 (N : Int)) (.int .i64 (ini : Int)) (.slice A6 m c6);rw [hn1n] at hM;go_wp2_with fail;go_meet;exact ⟨_, _, _, rfl, hide hM⟩
       ·go_simp
        replace hD := hD.boxed;refine hK.out _ (wA.alloc (.cells #[.int .i64 0, .int .i64 0, .slice none 0 0, .slice none 0 0] 27)) (fun _ => hSS.out _ hD.below) ?_;clear hK K;(try simp only [Act.put, sA, sB, sC]);generalize wA.alloc (.cells #[.int .i64 0, .int .i64 0, .slice none 0 0, .slice none 0 0] 27) = wA at *;refine lS 13 fun K hK => ?_
        go_simp;refine kP hK (fun _ => hSS.out _ hD.below) ?_
        clear hK K;refine lS 15 fun K hK => ?_
        have hbx := (hD.alc.box _ rfl).2;have z0 := hbx.c0;have z1 := hbx.c1;have z2 := hbx.c2;have z3 := hbx.c3;have f0 := hbx.f0;have f1 := hbx.f1;have f2 := hbx.f2;have f3 := hbx.f3;go_simp;refine kP hK nH ?_;clear hK K;refine lateT_done (by kernel_rfl) ?_ _;have hM := hD.fill (.int .i64 (N : Int)) (.int .i64 (ini : Int)) (.slice A6 m c6);rw [hn1n] at hM;go_wp2_with fail;go_meet;exact ⟨_, _, _, rfl, hide hM⟩
      ·go_simp
       replace hD := hD.boxed;refine hK.out _ (wA.alloc (.cells #[.int .i64 0, .int .i64 0, .slice none 0 0, .slice none 0 0] 27)) (fun _ => hSS.out _ hD.below) ?_;clear hK K;(try simp only [Act.put, sA, sB, sC]);generalize wA.alloc (.cells #[.int .i64 0, .int .i64 0, .slice none 0 0, .slice none 0 0] 27) = wA at *;refine lS 11 fun K hK => ?_
       have hLb := hD.alc.lab _ rfl;have hWd := hD.wrd _ rfl;refine step_appL (m := n - 1) (d := n - 1) (by rfl) (.tmp 62) (.tmp 66) (by rfl) hEs.out flat_strv (by go_simp) hLb.1 (by go_simp) hWd hsz3 hD.below.size ?_;intro A8 c8 wA hown8 hgr8 hb8 hat8;rw [hst.out] at hown8;replace hD := hD.app hgr8 hown8 hat8;clear hown8 hgr8 hb8 hat8 hLb hWd;refine kP hK (fun _ => hSS.out _ hD.below) ?_;clear hK K;refine lS 13 fun K hK => ?_
       go_simp;refine kP hK (fun _ => hSS.out _ hD.below) ?_
       clear hK K;refine lS 15 fun K hK => ?_
       have hbx := (hD.alc.box _ rfl).2;have z0 := hbx.c0;have z1 := hbx.c1;have z2 := hbx.c2;have z3 := hbx.c3;have f0 := hbx.f0;have f1 := hbx.f1;have f2 := hbx.f2;have f3 := hbx.f3;go_simp;refine kP hK nH ?_;clear hK K;refine lateT_done (by kernel_rfl) ?_ _;have hM := hD.fill (.int .i64 (N : Int)) (.int .i64 (ini : Int)) (.slice A6 m c6);rw [hn1n] at hM;go_wp2_with fail;go_meet;exact ⟨_, _, _, rfl, hide hM⟩
     ·go_simp
      replace hD := hD.boxed;refine hK.out _ (wA.alloc (.cells #[.int .i64 0, .int .i64 0, .slice none 0 0, .slice none 0 0] 27)) (fun _ => hSS.out _ hD.below) ?_;clear hK K;(try simp only [Act.put, sA, sB, sC]);generalize wA.alloc (.cells #[.int .i64 0, .int .i64 0, .slice none 0 0, .slice none 0 0] 27) = wA at *;refine lS 6 fun K hK => ?_
      go_simp;replace hD := hD.lit (⟨#[116, 97, 117]⟩ : ByteArray)
      refine hK.out _ (wA.alloc (.cells #[.string (⟨#[116, 97, 117]⟩ : ByteArray)] 9)) (fun _ => hSS.out _ hD.below) ?_;clear hK K;(try simp only [Act.put, sA, sB, sC]);generalize wA.alloc (.cells #[.string (⟨#[116, 97, 117]⟩ : ByteArray)] 9) = wA at *;refine lS 11 fun K hK => ?_
      have hLb := hD.alc.lab _ rfl;have hWd := hD.wrd _ rfl;refine step_appL (m := n - 1) (d := n - 1) (by rfl) (.tmp 62) (.tmp 66) (by rfl) hEs.out flat_strv (by go_simp) hLb.1 (by go_simp) hWd hsz3 hD.below.size ?_;intro A8 c8 wA hown8 hgr8 hb8 hat8;rw [hst.out] at hown8;replace hD := hD.app hgr8 hown8 hat8;clear hown8 hgr8 hb8 hat8 hLb hWd;refine kP hK (fun _ => hSS.out _ hD.below) ?_;clear hK K;refine lS 13 fun K hK => ?_
      go_simp;refine kP hK (fun _ => hSS.out _ hD.below) ?_
      clear hK K;refine lS 15 fun K hK => ?_
      have hbx := (hD.alc.box _ rfl).2;have z0 := hbx.c0;have z1 := hbx.c1;have z2 := hbx.c2;have z3 := hbx.c3;have f0 := hbx.f0;have f1 := hbx.f1;have f2 := hbx.f2;have f3 := hbx.f3;go_simp;refine kP hK nH ?_;clear hK K;refine lateT_done (by kernel_rfl) ?_ _;have hM := hD.fill (.int .i64 (N : Int)) (.int .i64 (ini : Int)) (.slice A6 m c6);rw [hn1n] at hM;go_wp2_with fail;go_meet;exact ⟨_, _, _, rfl, hide hM⟩
    ·go_simp
     replace hD := hD.boxed;refine hK.out _ (wA.alloc (.cells #[.int .i64 0, .int .i64 0, .slice none 0 0, .slice none 0 0] 27)) (fun _ => hSS.out _ hD.below) ?_;clear hK K;(try simp only [Act.put, sA, sB, sC]);generalize wA.alloc (.cells #[.int .i64 0, .int .i64 0, .slice none 0 0, .slice none 0 0] 27) = wA at *;refine lateT_two (i := 6) (j := 10) (by kernel_rfl) rfl rfl (fun K hK => ?_) (fun K hK => ?_)
     ·go_simp
      replace hD := hD.lit (⟨#[116, 97, 117]⟩ : ByteArray);refine hK.out _ (wA.alloc (.cells #[.string (⟨#[116, 97, 117]⟩ : ByteArray)] 9)) (fun _ => hSS.out _ hD.below) ?_;clear hK K;(try simp only [Act.put, sA, sB, sC]);generalize wA.alloc (.cells #[.string (⟨#[116, 97, 117]⟩ : ByteArray)] 9) = wA at *;refine lS 10 fun K hK => ?_
      go_simp;go_at_call 52; (with_reducible refine (q4.out _).mono ?_); rintro e wA ⟨A7, rfl, hs7, hb7⟩
      replace hD := hD.call hb7 hs7;clear hs7 hb7
      (try go_wp2_with fail)
      refine kP hK (fun _ => hSS.out _ hD.below) ?_;clear hK K;refine lS 11 fun K hK => ?_
      have hLb := hD.alc.lab _ rfl;have hWd := hD.wrd _ rfl;refine step_appL (m := n - 1) (d := n - 1) (by rfl) (.tmp 62) (.tmp 66) (by rfl) hEs.out flat_strv (by go_simp) hLb.1 (by go_simp) hWd hsz3 hD.below.size ?_;intro A8 c8 wA hown8 hgr8 hb8 hat8;rw [hst.out] at hown8;replace hD := hD.app hgr8 hown8 hat8;clear hown8 hgr8 hb8 hat8 hLb hWd;refine kP hK (fun _ => hSS.out _ hD.below) ?_;clear hK K;refine lS 13 fun K hK => ?_
      go_simp;refine kP hK (fun _ => hSS.out _ hD.below) ?_
      clear hK K;refine lS 15 fun K hK => ?_
      have hbx := (hD.alc.box _ rfl).2;have z0 := hbx.c0;have z1 := hbx.c1;have z2 := hbx.c2;have z3 := hbx.c3;have f0 := hbx.f0;have f1 := hbx.f1;have f2 := hbx.f2;have f3 := hbx.f3;go_simp;refine kP hK nH ?_;clear hK K;refine lateT_done (by kernel_rfl) ?_ _;have hM := hD.fill (.int .i64 (N : Int)) (.int .i64 (ini : Int)) (.slice A6 m c6);rw [hn1n] at hM;go_wp2_with fail;go_meet;exact ⟨_, _, _, rfl, hide hM⟩
     ·go_simp
      go_at_call 52; (with_reducible refine (q4.out _).mono ?_); rintro e wA ⟨A7, rfl, hs7, hb7⟩;replace hD := hD.call hb7 hs7;clear hs7 hb7
      (try go_wp2_with fail)
      refine kP hK (fun _ => hSS.out _ hD.below) ?_;clear hK K;refine lS 6 fun K hK => ?_
      go_simp;replace hD := hD.lit (⟨#[116, 97, 117]⟩ : ByteArray)
      refine hK.out _ (wA.alloc (.cells #[.string (⟨#[116, 97, 117]⟩ : ByteArray)] 9)) (fun _ => hSS.out _ hD.below) ?_;clear hK K;(try simp only [Act.put, sA, sB, sC]);generalize wA.alloc (.cells #[.string (⟨#[116, 97, 117]⟩ : ByteArray)] 9) = wA at *;refine lS 11 fun K hK => ?_
      have hLb := hD.alc.lab _ rfl;have hWd := hD.wrd _ rfl;refine step_appL (m := n - 1) (d := n - 1) (by rfl) (.tmp 62) (.tmp 66) (by rfl) hEs.out flat_strv (by go_simp) hLb.1 (by go_simp) hWd hsz3 hD.below.size ?_;intro A8 c8 wA hown8 hgr8 hb8 hat8;rw [hst.out] at hown8;replace hD := hD.app hgr8 hown8 hat8;clear hown8 hgr8 hb8 hat8 hLb hWd;refine kP hK (fun _ => hSS.out _ hD.below) ?_;clear hK K;refine lS 13 fun K hK => ?_
      go_simp;refine kP hK (fun _ => hSS.out _ hD.below) ?_
      clear hK K;refine lS 15 fun K hK => ?_
      have hbx := (hD.alc.box _ rfl).2;have z0 := hbx.c0;have z1 := hbx.c1;have z2 := hbx.c2;have z3 := hbx.c3;have f0 := hbx.f0;have f1 := hbx.f1;have f2 := hbx.f2;have f3 := hbx.f3;go_simp;refine kP hK nH ?_;clear hK K;refine lateT_done (by kernel_rfl) ?_ _;have hM := hD.fill (.int .i64 (N : Int)) (.int .i64 (ini : Int)) (.slice A6 m c6);rw [hn1n] at hM;go_wp2_with fail;go_meet;exact ⟨_, _, _, rfl, hide hM⟩
   case rest =>
    obtain ⟨b, AL, cL, rfl, hF⟩ := hcut;obtain ⟨hg6, hbx, hS, hbc, hcL⟩ := hF.out;have hzc := hbc.size;have hbrc := hide (hbr6.out.trans (hbc.mono hbr6.out.size));have hEc := hide (hS6.out.below hbc (.inl zR));have hsys : SysA wc N ini AL n A6 m ls es := ⟨hS.here', hEc.out.here', hv.out, hz.out⟩;have q5 := hide (hsys.valid cL c6 (he1.out.below hbrc.out zR));have z0 := hbx.c0;have z1 := hbx.c1;have z2 := hbx.c2;have z3 := hbx.c3;have hbl := hbx.lt;replace hsys := hide hsys;replace hbx := hide hbx;replace hS := hide hS;replace hbc := hide hbc;clear hF hSS q4;go_wp2_with fail;refine q5.out.mono ?_;rintro e w8 ⟨rfl, hb8⟩;have hsys8 := hide (hsys.out.below hb8 zR);have hbx8 := hbx.out.below hb8 hbl;have hbr8 := hide (hbrc.out.trans (hb8.mono hbrc.out.size));have q6 := ltsText_calls (c := cL) (d := c6) hsys8.out hcL (he1.out.below hbr8.out zR);rw [← hs.out] at q6;replace q6 := hide q6;have hS8 := hide (hS.out.below hb8 (.inl zR));have hE8 := hide (hEc.out.below hb8 (.inr zR));have hz8 := hb8.size;clear q5 z0 z1 z2 z3 hb8;have z0 := hbx8.c0;have z1 := hbx8.c1;have z2 := hbx8.c2;have z3 := hbx8.c3;replace hbx8 := hide hbx8;go_wp2_with fail;refine q6.out.mono ?_;rintro e w9 ⟨rfl, hb9⟩;have hself : (s.toList == s.toList) = true := beq_self_eq_true _;have hbr9 := hide (hbr8.out.trans (hb9.mono hbr8.out.size));have hS9 := hide (hS8.out.below hb9 (.inl (by omega)));have hE9 := hide (hE8.out.below hb9 (.inr zR));have hbx9 := hbx8.out.below hb9 (by omega);have h8 : w9.heap[w.heap.size]? = _ := (hbr9.out.block _ (by have := hz1.out; omega)).trans kR.out;have a0 : w9.cell? ⟨w.heap.size, 0, none⟩ = some (.int .i64 0) := (cell_of_row _ _ 0 _ _ (0, 0) h8).trans rfl;have a1 : w9.cell? ⟨w.heap.size, 1, none⟩ = some (.int .i64 0) := (cell_of_row _ _ 1 _ _ (0, 0) h8).trans rfl;have a2 : w9.cell? ⟨w.heap.size, 2, none⟩ = some (.slice none 0 0) := (cell_of_row _ _ 2 _ _ (0, 0) h8).trans rfl;have a3 : w9.cell? ⟨w.heap.size, 3, none⟩ = some (.slice none 0 0) := (cell_of_row _ _ 3 _ _ (0, 0) h8).trans rfl;have y0 : w9.frozen? ⟨w.heap.size, 0, none⟩ = false := frozen_of_row _ _ 0 _ _ h8;have y1 : w9.frozen? ⟨w.heap.size, 1, none⟩ = false := frozen_of_row _ _ 1 _ _ h8;have y2 : w9.frozen? ⟨w.heap.size, 2, none⟩ = false := frozen_of_row _ _ 2 _ _ h8;have y3 : w9.frozen? ⟨w.heap.size, 3, none⟩ = false := frozen_of_row _ _ 3 _ _ h8;have hz9 := hb9.size;clear q6 z0 z1 z2 z3 hb9;have z0 := hbx9.c0;have z1 := hbx9.c1;have z2 := hbx9.c2;have z3 := hbx9.c3;replace hbx9 := hide hbx9;replace h8 := hide h8;go_wp2_with fail
    (try simp only [Exit.inBlock, Exit.then])
    refine bodyPost_ret_by (v := .tuple #[.agg #[.int .i64 (N : Int), .int .i64 (ini : Int), .slice AL n cL, .slice A6 m c6], .bool true]) ?_ rfl ?_
    focus
     rw [results_cs rfl];go_simp
    have hz1' := hz1.out;have hF := hb0.out.trans (hbr9.out.mono (by omega));have hP := put4_belU hF (Nat.le_refl w.heap.size) (.int .i64 (N : Int)) (.int .i64 (ini : Int)) (.slice AL n cL) (.slice A6 m c6);exact ⟨AL, cL, A6, c6, rfl, ⟨(hS9.out.put4U (.inl (by omega)) _ _ _ _).here', (hE9.out.put4U (.inl (by omega)) _ _ _ _).here', hv.out, hz.out⟩, hP⟩
end
theorem equalS_yes (A B : Option Addr) (n c d : Nat) (l : List ByteArray) (w : World) (lo hi lo' hi' : Nat) (h : SlS w lo hi A n l) (g : SlS w lo' hi' B n l) (hn : n ≤ 1048576) :
  Calls Tryz.prog 61 #[.slice A n c, .slice B n d] w fun e w' => e = .returned (.bool true) ∧ Below w.heap.size w w' := by
 replace h := hide h;replace g := hide g;go_enter Tryz.func61, Tryz.ntmps61
 go_wp2
 go_loopw [13] (fun i wr => ∃ k : Nat, k ≤ n ∧ i = .int .i64 k ∧ Below w.heap.size w wr) (fun i _ => n - (intOf i).toNat)
 case atStart => exact ⟨0, Nat.zero_le _, rfl, bR⟩
 case round =>
  obtain ⟨k, hk, rfl, hb⟩ := hrel
  by_cases hlt : k < n
  ·obtain ⟨b, off, x, rfl, g1, g2, g3, hx, c0, -⟩ := h.out.get hlt
   obtain ⟨b', off', y, rfl, g1', g2', g3', hy, d0, -⟩ := g.out.get hlt;obtain rfl : x = y := Option.some.inj (hx.symm.trans hy);replace c0 := (hb.cell (p := ⟨b, off + k, none⟩) g3).trans c0;replace d0 := (hb.cell (p := ⟨b', off' + k, none⟩) g3').trans d0;clear h g hx hy;have hk0 : (0 : Int) ≤ (k : Int) := by omega
   have hk1 : (k : Int) < (n : Int) := by omega
   have hq : (x.toList == x.toList) = true := beq_self_eq_true _;have hq2 : (x.toList != x.toList) = false := by simp
   go_wp2
   go_quiet (fail)
   go_wp2
   go_roundw
   case rel => exact ⟨k + 1, by omega, by go_num, by first | exact hb | exact ⟨hb.os, hb.tape, hb.output, hb.size, hb.block⟩⟩
   case measure => simp [intOf]; omega
  ·have hkn : k = n := by omega
   subst hkn;clear h g
   go_wp2
   go_ret;exact ⟨rfl, hb⟩
theorem equalE_yes (A B : Option Addr) (n c d : Nat) (l : List Ed) (w : World) (lo hi lo' hi' : Nat) (h : SlE w lo hi A n l) (g : SlE w lo' hi' B n l) (hn : n ≤ 1048576) :
  Calls Tryz.prog 62 #[.slice A n c, .slice B n d] w fun e w' => e = .returned (.bool true) ∧ Below w.heap.size w w' := by
 replace h := hide h;replace g := hide g;go_enter Tryz.func62, Tryz.ntmps62
 go_wp2
 go_loopw [13] (fun i wr => ∃ k : Nat, k ≤ n ∧ i = .int .i64 k ∧ Below w.heap.size w wr) (fun i _ => n - (intOf i).toNat)
 case atStart => exact ⟨0, Nat.zero_le _, rfl, bR⟩
 case round =>
  obtain ⟨k, hk, rfl, hb⟩ := hrel
  by_cases hlt : k < n
  ·obtain ⟨b, off, f, l', t, rfl, g1, g2, g3, hx, c0, c1, c2, -⟩ := SlE.get h.out hlt
   obtain ⟨b', off', f', l2, t', rfl, g1', g2', g3', hy, d0, d1, d2, -⟩ := SlE.get g.out hlt;have hxy := Option.some.inj (hx.symm.trans hy);injection hxy with e1 e2;injection e2 with e2 e3;subst e1 e2 e3;replace c0 := (hb.cell (p := ⟨b, off + k * 3, none⟩) g3).trans c0;replace c1 := (hb.cell (p := ⟨b, off + k * 3 + 1, none⟩) g3).trans c1;replace c2 := (hb.cell (p := ⟨b, off + k * 3 + 2, none⟩) g3).trans c2;replace d0 := (hb.cell (p := ⟨b', off' + k * 3, none⟩) g3').trans d0;replace d1 := (hb.cell (p := ⟨b', off' + k * 3 + 1, none⟩) g3').trans d1;replace d2 := (hb.cell (p := ⟨b', off' + k * 3 + 2, none⟩) g3').trans d2;clear h g hx hy;have hk0 : (0 : Int) ≤ (k : Int) := by omega
   have hk1 : (k : Int) < (n : Int) := by omega
   have q0 : (f == f) = true := beq_self_eq_true _;have q1 : (l' == l') = true := beq_self_eq_true _;have q2 : (t == t) = true := beq_self_eq_true _
   go_wp2
   go_quiet (fail)
   go_wp2
   go_roundw
   case rel => exact ⟨k + 1, by omega, by go_num, by first | exact hb | exact ⟨hb.os, hb.tape, hb.output, hb.size, hb.block⟩⟩
   case measure => simp [intOf]; omega
  ·have hkn : k = n := by omega
   subst hkn;clear h g
   go_wp2
   go_ret;exact ⟨rfl, hb⟩
section
variable {w : World} {N ini : Nat} {A A' : Option Addr} {n : Nat} {B B' : Option Addr} {m : Nat} {ls : List ByteArray} {es : List Ed}
theorem sameLts_calls (h : SysA w N ini A n B m ls es) (g : SysA w N ini A' n B' m ls es) (c d c' d' : Nat) :
  Calls Tryz.prog 17 #[.agg #[.int .i64 (N : Int), .int .i64 (ini : Int), .slice A n c, .slice B m d], .agg #[.int .i64 (N : Int), .int .i64 (ini : Int), .slice A' n c', .slice B' m d']] w fun e w' => e = .returned (.bool true) ∧ Below w.heap.size w w' := by
 have hT := TwoS.start w N ini A n c B m d N ini A' n c' B' m d';obtain ⟨w1, hw1⟩ : ∃ w1, w1 = (w.alloc (ltsC N ini A n c B m d)).alloc (ltsC N ini A' n c' B' m d') := ⟨_, rfl⟩;rw [← hw1] at hT;obtain ⟨hm300, hn12, hn1, hle, hll⟩ := h.many;have h1 := h.below hT.bel zR;have g1 := g.below hT.bel zR;have q1 := hide (equalS_yes A A' n c c' ls w1 _ _ _ _ h1.ss g1.ss (by omega));have hEE := hide (And.intro h1.se g1.se);obtain ⟨a0, a1, a2, a3, b0, b1, b2, b3⟩ := hT.cells;have p0 : ((N : Int) == (N : Int)) = true := beq_self_eq_true _;have p1 : ((ini : Int) == (ini : Int)) = true := beq_self_eq_true _;replace hT := hide hT;replace hle := hide hle;replace hll := hide hll;clear h g h1 g1;go_enter Tryz.func17, Tryz.ntmps17;go_upto_region 1 with fail;rw [show ((w.alloc (.cells #[.int .i64 (N : Int), .int .i64 (ini : Int), .slice A n c, .slice B m d] 27)).alloc (.cells #[.int .i64 (N : Int), .int .i64 (ini : Int), .slice A' n c', .slice B' m d'] 27)) = w1 from hw1.symm];replace hw1 := hide hw1;go_wp2_with fail;refine q1.out.mono ?_;rintro e w2 ⟨rfl, hb2⟩;have hT2 := hide (hT.out.below hb2 zR);have q2 := hide (equalE_yes B B' m d d' es w2 _ _ _ _ (hEE.out.1.below hb2 (.inr zR)) (hEE.out.2.below hb2 (.inr zR)) (by omega));clear q1 a0 a1 a2 a3 b0 b1 b2 b3 hb2;obtain ⟨a0, a1, a2, a3, b0, b1, b2, b3⟩ := hT2.out.cells;go_wp2_with fail;refine q2.out.mono ?_;rintro e w3 ⟨rfl, hb3⟩;have hF := hide (hT2.out.bel.trans (hb3.mono hT2.out.bel.size));clear q2 a0 a1 a2 a3 b0 b1 b2 b3;go_wp2_with fail;go_ret;exact ⟨rfl, hF.out⟩
end
end Go.Proofs.YtnhomkmfbngmgaaGreatDoor
namespace Go.Proofs.YtnhomkmfbngmgaaGreatDoor
open Go.ChangeShapes Go.WideShapes Go.ChangeAt Go.RowKit
def SysD (w : World) (e : Ending) (w' : World) : Prop := ∃ (st ini : Nat) (A : Option Addr) (n c : Nat) (B : Option Addr) (m d : Nat) (ls : List ByteArray) (es : List Ed),
 e = .returned (.agg #[.int .i64 (st : Int), .int .i64 (ini : Int), .slice A n c, .slice B m d]) ∧ SysA w' st ini A n B m ls es ∧ st ≤ 7 ∧ n ≤ 7 ∧ m ≤ 64 ∧ NamD ls ∧ Below w.heap.size w w'
end Go.Proofs.YtnhomkmfbngmgaaGreatDoor
