/-
  Lemmas that the law of this claim leans on. Conditions: sizes.
-/
import Derived.Test.YtnhomkmfbngmgaaGreatDoorBaseA
import Derived.Test.YtnhomkmfbngmgaaGreatDoorBaseC
import Derived.Test.YtnhomkmfbngmgaaGreatDoorBaseE
import Derived.Test.YtnhomkmfbngmgaaGreatDoorBaseG
import Derived.Test.YtnhomkmfbngmgaaGreatDoorBaseH
import Derived.Deep.RegionLaw
import Derived.Maps.OwnSet
import Derived.Maps.Views
import Derived.Carry
set_option maxHeartbeats 6400000
set_option maxRecDepth 100000
set_option linter.unusedSimpArgs false
set_option linter.unusedVariables false
namespace Go.Proofs.YtnhomkmfbngmgaaGreatDoor
open Go.ChangeShapes Go.WideShapes Go.ChangeAt Go.RowKit Go.Sort Go.Lib
def shiftA (N : Nat) (a : Arc) : Arc := (a.1 + (N : Int), a.2.1, a.2.2 + (N : Int))
structure UniS (w wr : World) (Na ia : Nat) (A : Option Addr) (n c : Nat) (B : Option Addr) (m d : Nat) (Nb ib : Nat) (A' : Option Addr) (n' c' : Nat) (B' : Option Addr) (m' d' : Nat) : Prop where
 boxa : LtsBox wr w.heap.size (Na : Int) (ia : Int) A n c B m d
 boxb : LtsBox wr (w.heap.size + 1) (Nb : Int) (ib : Int) A' n' c' B' m' d'
 res : LtsBox wr (w.heap.size + 2) 0 0 none 0 0 none 0 0
 bel : Below w.heap.size w wr
section
variable {w wr w2 : World} {Na ia : Nat} {A : Option Addr} {n c : Nat} {B : Option Addr} {m d : Nat} {Nb ib : Nat} {A' : Option Addr} {n' c' : Nat} {B' : Option Addr} {m' d' : Nat}
theorem UniS.below (h : UniS w wr Na ia A n c B m d Nb ib A' n' c' B' m' d') {K : Nat} (hb : Below K wr w2) (hK : w.heap.size + 3 ≤ K) : UniS w w2 Na ia A n c B m d Nb ib A' n' c' B' m' d' :=
 ⟨h.boxa.below hb (by omega), h.boxb.below hb (by omega), h.res.below hb (by omega), h.bel.trans (hb.mono (by omega))⟩
theorem UniS.five (h : UniS w wr Na ia A n c B m d Nb ib A' n' c' B' m' d') : wr.cell? ⟨w.heap.size, 0, none⟩ = some (.int .i64 (Na : Int)) ∧ wr.cell? ⟨w.heap.size, 1, none⟩ = some (.int .i64 (ia : Int)) ∧ wr.cell? ⟨w.heap.size, 2, none⟩ = some (.slice A n c) ∧ wr.cell? ⟨w.heap.size + 1, 0, none⟩ = some (.int .i64 (Nb : Int)) ∧ wr.cell? ⟨w.heap.size + 1, 2, none⟩ = some (.slice A' n' c') :=
 ⟨h.boxa.c0, h.boxa.c1, h.boxa.c2, h.boxb.c0, h.boxb.c2⟩
theorem UniS.start (w : World) (Na ia : Nat) (A : Option Addr) (n c : Nat) (B : Option Addr) (m d : Nat) (Nb ib : Nat) (A' : Option Addr) (n' c' : Nat) (B' : Option Addr) (m' d' : Nat) :
  UniS w (((w.alloc (ltsC Na ia A n c B m d)).alloc (ltsC Nb ib A' n' c' B' m' d')).alloc (.cells #[.int .i64 0, .int .i64 0, .slice none 0 0, .slice none 0 0] 27)) Na ia A n c B m d Nb ib A' n' c' B' m' d' := by
 have z1 : (w.alloc (ltsC Na ia A n c B m d)).heap.size = w.heap.size + 1 := World.size_alloc _ _;have z2 : ((w.alloc (ltsC Na ia A n c B m d)).alloc (ltsC Nb ib A' n' c' B' m' d')).heap.size = w.heap.size + 2 := by rw [World.size_alloc, z1]
 have b1 := (Below.refl (w.heap.size + 1) (w.alloc (ltsC Na ia A n c B m d))).alloc (by omega) (ltsC Nb ib A' n' c' B' m' d');have b2 := (Below.refl (w.heap.size + 2) ((w.alloc (ltsC Na ia A n c B m d)).alloc (ltsC Nb ib A' n' c' B' m' d'))).alloc (by omega) (.cells #[.int .i64 0, .int .i64 0, .slice none 0 0, .slice none 0 0] 27);have x1 : LtsBox (w.alloc (ltsC Na ia A n c B m d)) w.heap.size (Na : Int) (ia : Int) A n c B m d := heap_alloc_new w _;have x2 : LtsBox ((w.alloc (ltsC Na ia A n c B m d)).alloc (ltsC Nb ib A' n' c' B' m' d')) (w.heap.size + 1) (Nb : Int) (ib : Int) A' n' c' B' m' d' := by rw [← z1]; exact heap_alloc_new _ _
 have x3 : LtsBox (((w.alloc (ltsC Na ia A n c B m d)).alloc (ltsC Nb ib A' n' c' B' m' d')).alloc (.cells #[.int .i64 0, .int .i64 0, .slice none 0 0, .slice none 0 0] 27)) (w.heap.size + 2) 0 0 none 0 0 none 0 0 := by rw [← z2]; exact heap_alloc_new _ _
 exact ⟨(x1.below b1 (by omega)).below b2 (by omega), x2.below b2 (by omega), x3, ((Below.refl w.heap.size w).alloc zR _).trans ((b1.mono (by omega)).trans (b2.mono (by omega)))⟩
end
theorem union_calls {w : World} {Na ia : Nat} {A : Option Addr} {n : Nat} {B : Option Addr} {m : Nat} {la : List ByteArray} {ea : List Ed} {Nb ib : Nat} {A' : Option Addr} {n' : Nat} {B' : Option Addr} {m' : Nat} {lb : List ByteArray} {eb : List Ed}
  (h : SysA w Na ia A n B m la ea) (g : SysA w Nb ib A' n' B' m' lb eb) (c d c' d' : Nat) :
  Calls Tryz.prog 229 #[.agg #[.int .i64 (Na : Int), .int .i64 (ia : Int), .slice A n c, .slice B m d], .agg #[.int .i64 (Nb : Int), .int .i64 (ib : Int), .slice A' n' c', .slice B' m' d']] w fun e w' => ∃ A2 n2 c2 A3 n3 c3, e = .returned (.agg #[.int .i64 ((Na : Int) + (Nb : Int)), .int .i64 (ia : Int), .slice A2 n2 c2, .slice A3 n3 c3]) ∧ SlS w' w.heap.size w'.heap.size A2 n2 (joiF (la ++ lb)) ∧ SlE w' w.heap.size w'.heap.size A3 n3 (ltsEs (la ++ lb) (ea.map (arcOf la) ++ (eb.map (arcOf lb)).map (shiftA Na))) ∧ Below w.heap.size w w' := by
 have hEa := hide elem_arc;obtain ⟨hm, hn12, hn1, hle, hll⟩ := h.many;obtain ⟨hm', hn12', hn1', hle', hll'⟩ := g.many;obtain ⟨⟨hNa, hNa2⟩, hia⟩ := h.bounds;obtain ⟨⟨hNb, hNb2⟩, hib⟩ := g.bounds;obtain ⟨w1, hw1⟩ : ∃ w1, w1 = (((w.alloc (ltsC Na ia A n c B m d)).alloc (ltsC Nb ib A' n' c' B' m' d')).alloc (.cells #[.int .i64 0, .int .i64 0, .slice none 0 0, .slice none 0 0] 27)) := ⟨_, rfl⟩;have hU1 : UniS w w1 Na ia A n c B m d Nb ib A' n' c' B' m' d' := by rw [hw1]; exact UniS.start _ _ _ _ _ _ _ _ _ _ _ _ _ _ _ _ _
 have hz1 := hU1.res.lt;have x0 := hU1.boxa.c0;have x1 := hU1.boxa.c1;have x2 := hU1.boxa.c2;have x3 := hU1.boxa.c3;have hqA := hide (arcs_calls (h.below hU1.bel zR) c d);obtain ⟨aa, haa⟩ : ∃ aa, aa = ea.map (arcOf la) := ⟨_, rfl⟩;obtain ⟨ab, hab⟩ : ∃ ab, ab = eb.map (arcOf lb) := ⟨_, rfl⟩;have habl : ab.length = m' := by rw [hab, List.length_map, hle']
 have hab2 : ∀ a, a ∈ ab → (0 ≤ a.1 ∧ a.1 ≤ 40) ∧ (0 ≤ a.2.2 ∧ a.2.2 ≤ 40) := fun a ha => by
  rw [hab] at ha;obtain ⟨e, he, rfl⟩ := List.mem_map.1 ha;have := g.ends e he;simp only [arcOf];omega
 rw [← haa, ← hab];rw [← haa] at hqA;replace hU1 := hide hU1;replace haa := hide haa;replace hle := hide hle;replace hll := hide hll;replace hle' := hide hle';replace hll' := hide hll';replace habl := hide habl;go_enter Tryz.func229, Tryz.ntmps229;go_upto_region 1 with fail;rw [show (((w.alloc (.cells #[.int .i64 (Na : Int), .int .i64 (ia : Int), .slice A n c, .slice B m d] 27)).alloc (.cells #[.int .i64 (Nb : Int), .int .i64 (ib : Int), .slice A' n' c', .slice B' m' d'] 27)).alloc (.cells #[.int .i64 0, .int .i64 0, .slice none 0 0, .slice none 0 0] 27)) = w1 from hw1.symm];replace hw1 := hide hw1;go_upto_region 2 with (first | (go_at_call 133; (with_reducible refine hqA.out.mono ?_); rintro e w2 ⟨QA, cA, rfl, hOA, hb2⟩));have hU2 := hU1.out.below hb2 (by omega);have y0 := hU2.boxb.c0;have y1 := hU2.boxb.c1;have y2 := hU2.boxb.c2;have y3 := hU2.boxb.c3;have hz2 := hb2.size;have hqB := arcs_calls (g.below hU2.bel zR) c' d';rw [← hab] at hqB;replace hqB := hide hqB;replace hab := hide hab;replace hOA := hide hOA;replace hU2 := hide hU2;clear x0 x1 x2 x3 hqA hb2;go_upto_region 3 with (first | (go_at_call 133; (with_reducible refine hqB.out.mono ?_); rintro e w3 ⟨QB, cB, rfl, hOB, hb3⟩; replace hOB := hide hOB; replace hb3 := hide hb3));have hU3 := hide (hU2.out.below hb3.out (by omega));have hOA3 := hide (hOA.out.below hb3.out zR);have hap3 : Hid (∀ q, (Value.slice QA m cA).ownBlock = some q → (Value.slice QB m' cB).ownBlock ≠ some q) := fun q h1 h2 => by
  have := (hOA.out.lt q h1).2;have := (hOB.out.lt q h2).1;omega
 have hOB3 := hide (hOB.out.sink hz2);have hz3 := hb3.out.size;clear hOA hOB hU2 hb3 hqB y0 y1 y2 y3
 go_loopw [5, 13] (fun v5 v13 wr => ∃ (k : Nat) (A5 : Option Addr) (c5 : Nat), k ≤ m' ∧ v13 = .int .i64 (k : Nat) ∧ v5 = .slice A5 (m + k) c5 ∧ Hid (UniS w wr Na ia A n c B m d Nb ib A' n' c' B' m' d') ∧ Hid (Own 3 av wr w1.heap.size 204 A5 (m + k) c5 (aa ++ (ab.take k).map (shiftA Na))) ∧ Hid (Own 3 av wr w1.heap.size 204 QB m' cB ab) ∧ Hid (∀ q, (Value.slice A5 (m + k) c5).ownBlock = some q → (Value.slice QB m' cB).ownBlock ≠ some q) ∧ w1.heap.size ≤ wr.heap.size) (fun _ v _ => m' - (intOf v).toNat)
 case atStart => exact ⟨0, QA, cA, Nat.zero_le _, rfl, rfl, hU3.out, (by show Own _ _ _ _ _ _ _ _ _; simpa using hOA3.out), hOB3.out, hap3.out, by omega⟩
 case round =>
  clear hU3 hOA3 hOB3 hap3;obtain ⟨k, A5, c5, hk, rfl, rfl, hU, hOA, hOB, hap, hzr⟩ := hrel
  by_cases hlt : k < m'
  ·obtain ⟨gB, oB, f, s, t, rfl, -, -, hgB, hx, x0, x1, x2⟩ := SlA.get (hOB.out.sl flat_av) hlt
   have hxb := hab2 _ (List.mem_of_getElem? hx)
   (try dsimp only at hxb)
   have k0 : (0 : Int) ≤ (k : Int) := by omega
   have k1 : (k : Int) < (m' : Int) := by omega
   have hf : IntKind.i64.wrap (f + (Na : Int)) = f + (Na : Int) := IntWalk.i64_in _ (by omega);have ht : IntKind.i64.wrap (t + (Na : Int)) = t + (Na : Int) := IntWalk.i64_in _ (by omega);have hes1 : Hid (aa ++ (ab.take (k + 1)).map (shiftA Na) = (aa ++ (ab.take k).map (shiftA Na)) ++ [(f + (Na : Int), s, t + (Na : Int))]) := by
    show _ = _
    rw [List.take_add_one, hx, List.map_append, List.append_assoc]
    rfl
   obtain ⟨wA, hwA⟩ : ∃ wA, wA = wr.alloc (.cells #[.int .i64 f, .string s, .int .i64 t] 204) := ⟨_, rfl⟩;have hbAA : Below wr.heap.size wr wA := by rw [hwA]; exact bR.alloc zR _
   have ka : wA.heap[wr.heap.size]? = some (.cells #[.int .i64 f, .string s, .int .i64 t] 204 (0, 0)) := by rw [hwA]; exact heap_alloc_new wr _
   have e0 := (cell_of_row _ _ 0 _ _ (0, 0) ka).trans (show _ = some (Value.int .i64 f) from rfl);have e1 := (cell_of_row _ _ 1 _ _ (0, 0) ka).trans (show _ = some (Value.string s) from rfl);have e2 := (cell_of_row _ _ 2 _ _ (0, 0) ka).trans (show _ = some (Value.int .i64 t) from rfl);have hUA := hU.out.below hbAA (by omega);have b0 := hUA.boxa.c0;obtain ⟨wL, hwL⟩ : ∃ wL, wL = wA.alloc (.cells #[.int .i64 (f + (Na : Int)), .string s, .int .i64 (t + (Na : Int))] 204) := ⟨_, rfl⟩;have hbL : Below wr.heap.size wr wL := hbAA.trans (by rw [hwL]; exact bR.alloc hbAA.size _);have hUL := hide (hU.out.below hbL (by omega));have hOAL := hide (hOA.out.below hbL zR);have hOBL := hide (hOB.out.below hbL zR);have hlit : Hid (Sl 3 av (wA.alloc (.cells #[.int .i64 (f + (Na : Int)), .string s, .int .i64 (t + (Na : Int))] 204)) 0 (wA.heap.size + 1) (some ⟨wA.heap.size, 0, none⟩) 1 [(f + (Na : Int), s, t + (Na : Int))]) := Sl.lit1' (f := av) wA 204 _ #[.int .i64 (f + (Na : Int)), .string s, .int .i64 (t + (Na : Int))] rfl 3 _ rfl;have hOAL2 := hOAL;rw [hwL] at hOAL2;have hsz : (m + k + 1) * 32 ≤ 140737488355328 := by omega
   have hza : w1.heap.size ≤ (wA.alloc (.cells #[.int .i64 (f + (Na : Int)), .string s, .int .i64 (t + (Na : Int))] 204)).heap.size := by rw [← hwL]; have := hbL.size; omega
   replace hx := hide hx;replace hbL := hide hbL;replace hwL := hide hwL;clear hbAA ka hUA;go_upto_region 5 with fail;rw [← show wA = _ from hwA];replace hwA := hide hwA;clear x0 x1 x2;generalize wr.heap.size = bA at *;go_wp2_with (first | (at_builtin; (with_reducible refine wpList_app rfl (.tmp 17) (.tmp 31) rfl hEa.out flat_av rfl hOAL2.out rfl hlit.out ?c1 hza ?_); rotate_right; intro A7 c7 w7 hown7 hgr7 hb7 hat7))
   case c1 => omega
   have hszL := hUL.out.res.lt;rw [hwL.out] at hUL hOBL hbL hszL;have hU7 := hide (hUL.out.below hb7 (by omega));have hz7 := hb7.size;have hne7 : ∀ q, (Value.slice (some (⟨gB, oB, none⟩ : Addr)) m' cB).ownBlock = some q → some q ≠ (Value.slice A5 (m + k) c5).ownBlock := fun q h1 h2 => hap.out q h2.symm h1
   have hOB7 := hide (hOBL.out.keep fun q hq => hgr7.block q (hOBL.out.lt q hq).2 (hne7 q hq));have hap7 : Hid (∀ q, (Value.slice A7 (m + k + 1) c7).ownBlock = some q → (Value.slice (some (⟨gB, oB, none⟩ : Addr)) m' cB).ownBlock ≠ some q) := fun q h1 h2 => by
    rcases hat7 with e | e
    ·exact hne7 q h2 (by rw [← h1, e])
    ·have h3 := (hOBL.out.lt q h2).2
     rw [h1] at e;have : q = _ := Option.some.inj e;omega
   have hO9 := hown7;rw [← hes1.out] at hO9;replace hO9 := hide hO9;clear hown7 hgr7 hb7 hat7 hUL hOBL hOAL hOAL2 hlit hU hOA hOB hap e0 e1 e2;go_roundw
   case rel => exact ⟨k + 1, A7, c7, by omega, by go_num, rfl, hU7.out, hO9.out, hOB7.out, hap7.out, by omega⟩
   case measure => simp [intOf]; omega
  ·have hkm : k = m' := by omega
   subst hkm;have hOA9 := hOA.out;rw [List.take_of_length_le (by rw [habl.out]; omega)] at hOA9;obtain ⟨wD, hwD⟩ : ∃ wD, wD = wr.drew := ⟨_, rfl⟩;have hbD : Below wr.heap.size wr wD := by rw [hwD]; exact bR.drew
   have hUD := hide (hU.out.below hbD (by omega));obtain ⟨wS, hwS⟩ : ∃ wS, wS = wD.alloc (.cells #[.slice A n c, .slice A' n' c'] 24) := ⟨_, rfl⟩;have hbS : Below wr.heap.size wr wS := hbD.trans (by rw [hwS]; exact bR.alloc hbD.size _);have hUS := hide (hU.out.below hbS (by omega));have hOAS := hide (hOA9.below hbS zR);have ks : wS.heap[wD.heap.size]? = some (.cells #[.slice A n c, .slice A' n' c'] 24 (0, 0)) := by rw [hwS]; exact heap_alloc_new wD _
   have hszS : w.heap.size + 3 ≤ wS.heap.size := by have := hbS.size; omega
   have hqC := hide (concatS_calls wD.heap.size A n c A' n' c' la lb wS _ _ _ _ (cR 0 ks) (cR 1 ks) (Array.getElem?_eq_some_iff.1 ks).1 (h.ss.below hUS.out.bel (.inr zR)) (g.ss.below hUS.out.bel (.inr zR)) (by omega) (by omega));have hsum : IntKind.i64.wrap ((Na : Int) + (Nb : Int)) = (Na : Int) + (Nb : Int) := IntWalk.i64_in _ (by omega);replace hwS := hide hwS;replace hwD := hide hwD;replace hbS := hide hbS;clear ks hbD hOA9 hOA hOB hap;go_upto_region 7 with fail;refine lateT_begin (S := fun w' => w'.cell? ⟨w.heap.size, 0, none⟩ = some (.int .i64 (Na : Int)) ∧ w'.cell? ⟨w.heap.size, 1, none⟩ = some (.int .i64 (ia : Int)) ∧ w'.cell? ⟨w.heap.size, 2, none⟩ = some (.slice A n c) ∧ w'.cell? ⟨w.heap.size + 1, 0, none⟩ = some (.int .i64 (Nb : Int)) ∧ w'.cell? ⟨w.heap.size + 1, 2, none⟩ = some (.slice A' n' c')) (st := 15) (by kernel_rfl) ?_;rw [← show wD = _ from hwD.out];have hS0 : (fun w' : World => w'.cell? ⟨w.heap.size, 0, none⟩ = some (.int .i64 (Na : Int)) ∧ w'.cell? ⟨w.heap.size, 1, none⟩ = some (.int .i64 (ia : Int)) ∧ w'.cell? ⟨w.heap.size, 2, none⟩ = some (.slice A n c) ∧ w'.cell? ⟨w.heap.size + 1, 0, none⟩ = some (.int .i64 (Nb : Int)) ∧ w'.cell? ⟨w.heap.size + 1, 2, none⟩ = some (.slice A' n' c')) wD := hUD.out.five;refine tkB 0 [15] hS0 ?_;refine tkB 1 [15] hS0 ?_;refine tkB 2 [15] hS0 ?_;refine tkB 3 [15] hS0 ?_;refine tkB 4 [15] hS0 ?_;refine tkB 5 [15] hS0 ?_;refine tkB 6 [15] hS0 ?_;refine tkB 7 [15] hS0 ?_;refine tkB 8 [15] hS0 ?_;refine tkB 9 [15] hS0 ?_;refine tkB 10 [15] hS0 ?_;refine tkB 13 [15] hS0 ?_;refine lS 11 fun K hK => ?_
   go_simp;rw [← show wS = _ from hwS.out]
   refine kP hK (fun _ => hUS.out.five) ?_;clear hK K;refine lS 12 fun K hK => ?_
   go_simp;go_at_call 155
   refine hqC.out.mono ?_;rintro e w6 ⟨A6, c6, rfl, hO6, hb6⟩;have hU6 := hide (hUS.out.below hb6 hszS);have hsl6 := hide (hO6.sl flat_strv);have hz6 := hb6.size;have hOA6 := hide (hOAS.out.below hb6 zR);go_wp2_with fail;refine kP hK (fun _ => hU6.out.five) ?_;clear hK K;refine lS 14 fun K hK => ?_
   have hqL := hide (lts_calls ((Na : Int) + (Nb : Int)) (ia : Int) A6 (n + n') c6 (la ++ lb) A5 (m + k) c5 (aa ++ ab.map (shiftA Na)) w6 _ _ _ _ hsl6.out zR (by omega) (hOA6.out.sl flat_av) zR (by omega));go_simp;go_at_call 134;refine hqL.out.mono ?_;rintro e w7 ⟨A2, n2, c2, A3, n3, c3, rfl, hS7, hO7, hb7⟩;have hU7 := hide (hU6.out.below hb7 (by omega));have hS7 := hide hS7;have hO7 := hide hO7;have r0 := hU7.out.res.c0;have r1 := hU7.out.res.c1;have r2 := hU7.out.res.c2;have r3 := hU7.out.res.c3;have v0 := hU7.out.res.f0;have v1 := hU7.out.res.f1;have v2 := hU7.out.res.f2;have v3 := hU7.out.res.f3;go_wp2_with fail;refine kP hK (fun _ => hU7.out.five) ?_;clear hK K;refine lS 15 fun K hK => ?_
   go_simp;refine kP hK nH ?_
   clear hK K;refine lateT_done (by kernel_rfl) ?_ _;go_wp2_with fail
   (try simp only [Exit.inBlock, Exit.then])
   refine bodyPost_ret_by (v := .agg #[.int .i64 ((Na : Int) + (Nb : Int)), .int .i64 (ia : Int), .slice A2 n2 c2, .slice A3 n3 c3]) ?_ rfl ?_
   focus
    rw [results_cell1 rfl];go_simp
   have hZs := put4_size w7 (w.heap.size + 1 + 1) (.int .i64 ((Na : Int) + (Nb : Int))) (.int .i64 (ia : Int)) (.slice A2 n2 c2) (.slice A3 n3 c3);have hz67 := hb7.size;have hw6 : w.heap.size + 3 ≤ w6.heap.size := by omega
   have hb77 := hU7.out.bel;have hf : ∀ q, q ≠ w.heap.size + 1 + 1 → (put4 w7 (w.heap.size + 1 + 1) (.int .i64 ((Na : Int) + (Nb : Int))) (.int .i64 (ia : Int)) (.slice A2 n2 c2) (.slice A3 n3 c3)).heap[q]? = w7.heap[q]? := fun q hq => put4_other _ _ _ _ _ _ hq
   refine ⟨A2, n2, c2, A3, n3, c3, rfl, ?_, ?_, ?_⟩
   ·change SlS (put4 w7 (w.heap.size + 1 + 1) _ _ _ _) _ (put4 w7 (w.heap.size + 1 + 1) _ _ _ _).heap.size _ _ _
    exact (Sl.keep hS7.out (by omega) fun q h1 h2 h3 => hf q (by omega)).more (by omega) (by omega)
   ·change SlE (put4 w7 (w.heap.size + 1 + 1) _ _ _ _) _ (put4 w7 (w.heap.size + 1 + 1) _ _ _ _).heap.size _ _ _
    exact (Sl.keep (hO7.out.sl flat_ev) (by omega) fun q h1 h2 h3 => hf q (by omega)).more (by omega) (by omega)
   ·change Below _ _ (put4 w7 (w.heap.size + 1 + 1) _ _ _ _)
    exact ⟨hb77.os, hb77.tape, hb77.output, by have := hb77.size; omega, fun q hq => (hf q (by omega)).trans (hb77.block q hq)⟩
end Go.Proofs.YtnhomkmfbngmgaaGreatDoor
namespace Go.Proofs.YtnhomkmfbngmgaaGreatDoor
def clsE (E : Nat → Nat → Bool) : Nat → List Int × Nat
 | 0 => ([], 0)
 | k + 1 => match (List.range k).find? (E k) with
  | some j => ((clsE E k).1 ++ [(clsE E k).1[j]?.getD 0], (clsE E k).2)
  | none => ((clsE E k).1 ++ [((clsE E k).2 : Int)], (clsE E k).2 + 1)
def plcE (l : List Nat) (n : Nat) : Nat := (l.findIdx? fun x => decide (x = n)).getD l.length
def nrmE (l : List Nat) : Nat → List Int × List Nat
 | 0 => ([], [])
 | k + 1 => match l[k]? with
  | none => nrmE l k
  | some n => ((nrmE l k).1 ++ [(plcE (nrmE l k).2 n : Int)], if n ∈ (nrmE l k).2 then (nrmE l k).2 else (nrmE l k).2 ++ [n])
open Go.ChangeAt Go.ChangeShapes Go.RowKit Go.WideShapes
open Go.Maps (Keyed keyOf_int_mk)
def MapN (w : World) (b n : Nat) (f : Int → Option Int) : Prop :=
 ∃ D : DataW Unit, w.ownsMap Tryz.prog 2 (plainElem Tryz.prog 2) b n D ∧ Maps.size D = n ∧ ∀ k : Int, (Lit.int .i64 k).wf = true → Maps.has D (.int .i64 k) = (f k).isSome ∧ ∀ c, f k = some c → D.atKey (.int .i64 k) (.lit (.int .i64 0)) = .lit (.int .i64 c)
theorem keyedN : Keyed Tryz.prog 2 := Go.Maps.int_keyed Tryz.underlying2
theorem zeroN (w : World) : (zeroValue 2).run Tryz.prog w = .ok (.int .i64 0) w := by kernel_rfl
theorem owns_tightN {H : Type} {P : Program} {k : TypeId} {R : Value → Option (DataW H × List MemPlace)} {w : World} {b n : Nat} {D : DataW H} (h : w.ownsMap P k R b n D) : w.ownsMap P k R b (Maps.size D) D := by
 obtain ⟨es, clock, hb, F, hs, rfl⟩ := h;exact ⟨es, clock, hb, F, by simp [Maps.size, length_sorted], rfl⟩
section
variable {w w' : World} {b n : Nat} {f : Int → Option Int}
theorem MapN.made (w : World) : MapN (w.alloc (.map #[] 0)) w.heap.size 0 (fun _ => none) :=
 ⟨.map [], World.ownsMap_made _ _ _ _, rfl, fun k _ => ⟨rfl, fun c h => by cases h⟩⟩
theorem MapN.lt (h : MapN w b n f) : b < w.heap.size := by obtain ⟨D, h1, _⟩ := h; exact h1.lt
theorem MapN.keep (h : MapN w b n f) (hb : w'.heap[b]? = w.heap[b]?) : MapN w' b n f := by
 obtain ⟨D, ⟨es, clock, h1, r⟩, h2⟩ := h;exact ⟨D, ⟨es, clock, hb.trans h1, r⟩, h2⟩
theorem MapN.lookOk (h : MapN w b n f) {k : Int} (hk : (Lit.int .i64 k).wf = true) : ∃ c : Int, (Instr.lookup 299 (.map (some b)) (.int .i64 k) true).run Tryz.prog w = .ok (.tuple #[.int .i64 c, .bool (f k).isSome]) w ∧ ∀ c', f k = some c' → c = c' := by
 obtain ⟨D, h1, -, h2⟩ := h;obtain ⟨h3, h4⟩ := h2 k hk;obtain ⟨v, ps, hr, hv⟩ := h1.look_ok keyedN Tryz.underlying299 (zeroN w) (plainElem_int Tryz.underlying2 (by decide)) (keyOf_int_mk Tryz.underlying2 hk);obtain ⟨c, rfl, hc, hw⟩ := plainElem_int_inv Tryz.underlying2 hv;simp only [Prod.mk.injEq] at hc;rw [h3] at hr;refine ⟨c, hr, fun c' hc' => ?_⟩;rw [h4 c' hc'] at hc;have := hc.1;injection this with e;injection e with _ e;exact e.symm
theorem MapN.len (h : MapN w b n f) (ty : TypeId) : (Builtin.len_ #[299] ty #[.map (some b)]).run Tryz.prog w = .ok (.int .i64 (n : Int)) w := by
 obtain ⟨D, h1, h2, -⟩ := h;rw [h1.len Tryz.underlying299 ty, h2]
theorem MapN.add (h : MapN w b n f) (hn : n < maxLen) {k c : Int} (hk : (Lit.int .i64 k).wf = true) (hc : (Lit.int .i64 c).wf = true) (hno : f k = none) :
  ∃ w', (Instr.mapUpdate 299 (.map (some b)) (.int .i64 k) (.int .i64 c)).run Tryz.prog w = .ok () w' ∧ MapN w' b (n + 1) (fun i => if i = k then some c else f i) ∧ w.grownBy w' (some b) := by
 obtain ⟨D, h1, hs, h2⟩ := h;have hm := h1.isMap;obtain ⟨w', hr, h3, h4⟩ := h1.update keyedN Tryz.underlying299 hn (keyOf_int_mk Tryz.underlying2 hk) (plainElem_int Tryz.underlying2 hc);have hnh : Maps.has D (.int .i64 k) = false := by rw [(h2 k hk).1, hno]; rfl
 have hsz : Maps.size (D.put (.int .i64 k) (.lit (.int .i64 c))) = n + 1 := by
  rw [Go.Maps.size_put (h1.tidy keyedN), hnh, hs]
  rfl
 refine ⟨w', hr, ⟨_, hsz ▸ owns_tightN h3, hsz, fun i hi => ?_⟩, h4⟩
 by_cases e : i = k
 ·subst e
  simp only [if_true];refine ⟨Go.Maps.has_true_of_atKey fun z => Go.Maps.atKey_put_same hm (by trivial) _ z, fun c' hc' => ?_⟩
  cases hc'
  exact Go.Maps.atKey_put_same hm (by trivial) _ _
 ·simp only [if_neg e]
  have hne : (Lit.int .i64 i) ≠ (Lit.int .i64 k) := fun h => e (by injection h)
  obtain ⟨h5, h6⟩ := h2 i hi;refine ⟨?_, fun c' hc' => by rw [Go.Maps.atKey_put_other hne]; exact h6 c' hc'⟩;rw [← h5];exact Go.Maps.has_put_other hne _
end
theorem range_succ_intN (k : Nat) : (List.range (k + 1)).map Int.ofNat = (List.range k).map Int.ofNat ++ [(k : Int)] := by
 rw [List.range_succ, List.map_append]
 rfl
theorem upToN_calls (N : Nat) (hN : N ≤ 1048000) (w : World) :
  Calls Tryz.prog 127 #[.int .i64 (N : Int)] w fun e w' => ∃ A c, e = .returned (.slice A N c) ∧ Own 1 iv w' w.heap.size 2 A N c ((List.range N).map Int.ofNat) ∧ Below w.heap.size w w' := by
 have hE := hide elem_int64;go_enter Tryz.func127, Tryz.ntmps127
 go_wp2
 go_loopw [3, 6] (fun v i wr => ∃ (k : Nat) (A : Option Addr) (c : Nat), k ≤ N ∧ i = .int .i64 (k : Nat) ∧ v = .slice A k c ∧ Hid (Own 1 iv wr w.heap.size 2 A k c ((List.range k).map Int.ofNat)) ∧ Below w.heap.size w wr) (fun _ i _ => N - (intOf i).toNat)
 case atStart => exact ⟨0, none, 0, Nat.zero_le _, rfl, rfl, Own.nil_ _ _ _, bR⟩
 case round =>
  obtain ⟨k, A, c, hk, rfl, rfl, hown, hb⟩ := hrel
  by_cases hlt : k < N
  ·have hz := hb.size
   have hza : ∀ o, w.heap.size ≤ (wr.alloc o).heap.size := fun o => by rw [World.size_alloc]; omega
   have hst := hide (range_succ_intN k);replace hb := hide hb;go_wp2_with (first | (at_builtin; (with_reducible refine wpList_app rfl (.tmp 9) (.tmp 11) rfl hE.out flat_iv rfl (hown.out.alloc _) rfl (Sl.lit1' wr 2 (k : Int) _ rfl 1 _ ?c0) ?c1 (hza _) ?_); rotate_right; intro A5 c5 w5 hown5 hgr5 hb5 _))
   case c0 => rfl
   case c1 => omega
   have hb6 := hide ((hb.out.alloc hz (.cells #[.int .i64 (k : Int)] 2)).trans hb5);go_roundw
   case rel => exact ⟨k + 1, A5, c5, by omega, by go_num, rfl, by rw [hst.out]; exact hown5, hb6.out⟩
   case measure => simp [intOf]; omega
  ·have hkn : k = N := by omega
   subst hkn;replace hb := hide hb
   go_wp2
   go_ret;exact ⟨A, c, rfl, hown.out, hb.out⟩
theorem nrm_len {l : List Nat} : ∀ {k : Nat}, k ≤ l.length → (nrmE l k).1.length = k
 | 0, _ => rfl
 | k + 1, h => by
  have hx : l[k]? = some (l[k]'(by omega)) := List.getElem?_eq_getElem _
  conv => lhs; unfold nrmE
  rw [hx];dsimp only;rw [List.length_append, nrm_len (by omega)]
  rfl
theorem nrm_succ {l : List Nat} {k x : Nat} (hx : l[k]? = some x) : nrmE l (k + 1) = ((nrmE l k).1 ++ [(plcE (nrmE l k).2 x : Int)], if x ∈ (nrmE l k).2 then (nrmE l k).2 else (nrmE l k).2 ++ [x]) := by
 conv => lhs; unfold nrmE
 rw [hx]
theorem nrm_pre {l : List Nat} {j k : Nat} (h : j ≤ k) (hk : k ≤ l.length) : (nrmE l j).1 <+: (nrmE l k).1 := by
 induction k with
 | zero =>
  obtain rfl : j = 0 := by omega
  exact List.prefix_refl _
 | succ k ih =>
  rcases Nat.lt_or_ge k j with h1 | h1
  ·obtain rfl : j = k + 1 := by omega
   exact List.prefix_refl _
  ·have hx : l[k]? = some (l[k]'(by omega)) := List.getElem?_eq_getElem _
   rw [nrm_succ hx];exact (ih h1 (by omega)).trans (List.prefix_append _ _)
theorem nrm_blk {l : List Nat} {k : Nat} : (nrmE l k).2.length ≤ k := by
 induction k with
 | zero => exact zR
 | succ k ih =>
  cases hl : l[k]? with
  | none => unfold nrmE; rw [hl]; dsimp only; omega
  | some y =>
   rw [nrm_succ hl];dsimp only
   split
   ·omega
   ·rw [List.length_append]; simp; omega
theorem plc_old {l : List Nat} {m j : Nat} (hj : j ∈ l) : plcE (l ++ [m]) j = plcE l j := by
 unfold plcE;rw [List.findIdx?_append]
 cases hf : l.findIdx? fun x => decide (x = j) with
 | some i => simp
 | none =>
  rw [List.findIdx?_eq_none_iff] at hf;have := hf j hj
  simp at this
theorem plc_new {l : List Nat} {k : Nat} (hl : ¬ k ∈ l) : plcE (l ++ [k]) k = l.length := by
 unfold plcE;rw [List.findIdx?_append, List.findIdx?_eq_none_iff.2 (fun x hx => decide_eq_false fun e : x = k => hl (by rw [← e]; exact hx))]
 simp
theorem plc_out {l : List Nat} {k : Nat} (hl : ¬ k ∈ l) : plcE l k = l.length := by
 unfold plcE;rw [List.findIdx?_eq_none_iff.2 (fun x hx => decide_eq_false fun e : x = k => hl (by rw [← e]; exact hx))]
 rfl
def fMN (l : List Nat) (i : Int) : Option Int := if 0 ≤ i ∧ i.toNat ∈ l then some (plcE l i.toNat : Int) else none
theorem fMN_add {l : List Nat} {x : Nat} (hx : ¬ x ∈ l) : (fun i => if i = (x : Int) then some (l.length : Int) else fMN l i) = fMN (l ++ [x]) := by
 funext i
 unfold fMN
 by_cases e : i = (x : Int)
 ·subst e
  rw [if_pos rfl, if_pos ⟨by omega, by simp⟩, Int.toNat_natCast, plc_new hx]
 ·rw [if_neg e]
  by_cases h : 0 ≤ i ∧ i.toNat ∈ l
  ·rw [if_pos h, if_pos ⟨h.1, List.mem_append.2 (.inl h.2)⟩, plc_old h.2]
  ·rw [if_neg h, if_neg]
   rintro ⟨h1, h2⟩
   rcases List.mem_append.1 h2 with h2 | h2
   ·exact h ⟨h1, h2⟩
   ·have := List.mem_singleton.1 h2
    omega
structure NrmS (w wr : World) (bm bo n : Nat) (l : List Nat) (k : Nat) : Prop where
 map : MapN wr bm (nrmE l k).2.length (fMN (nrmE l k).2)
 out : SlI wr bo (bo + 1) (some ⟨bo, 0, none⟩) n (intK n k fun v => ((nrmE l n).1[v]?).getD 0)
 bel : Below w.heap.size w wr
theorem normal_calls (A : Option Addr) (n c : Nat) (l : List Nat) (w : World) (lo hi : Nat) (h : SlI w lo hi A n (l.map Int.ofNat)) (hn : n ≤ 1048576) (hl : ∀ x ∈ l, x ≤ 1048576) :
  Calls Tryz.prog 241 #[.slice A n c] w fun e w' => ∃ B, e = .returned (.slice (some ⟨B, 0, none⟩) n n) ∧ SlI w' w.heap.size w'.heap.size (some ⟨B, 0, none⟩) n (nrmE l n).1 ∧ Below w.heap.size w w' := by
 have hlen : l.length = n := by have := h.len; rwa [List.length_map] at this
 have hmm := @run_makeMap Tryz.prog;have hmk := run_make_int n hn;have z1 : (w.alloc (.map #[] 0)).heap.size = w.heap.size + 1 := World.size_alloc _ _;have hA : Below (w.alloc (.map #[] 0)).heap.size (w.alloc (.map #[] 0)) ((w.alloc (.map #[] 0)).alloc (.cells (madeCells #[.int .i64 0] n) 2)) := bR.alloc zR _;have hs0 : SlI ((w.alloc (.map #[] 0)).alloc (.cells (madeCells #[.int .i64 0] n) 2)) (w.heap.size + 1) (w.heap.size + 1 + 1) (some ⟨w.heap.size + 1, 0, none⟩) n (intK n 0 fun v => ((nrmE l n).1[v]?).getD 0) := by
  have := SlI.made (w.alloc (.map #[] 0)) n (fun v => ((nrmE l n).1[v]?).getD 0);rw [z1] at this;exact this
 have hf0 : (fun _ : Int => (none : Option Int)) = fMN (nrmE l 0).2 := by
  funext i
  unfold fMN;rw [if_neg];rintro ⟨-, h⟩
  cases h
 have hm0 := MapN.made w;rw [hf0] at hm0;have hst : Hid (NrmS w ((w.alloc (.map #[] 0)).alloc (.cells (madeCells #[.int .i64 0] n) 2)) w.heap.size (w.heap.size + 1) n l 0) :=
  ⟨hm0.keep (Below.heap_alloc _ _ _ (by omega)), hs0, (bR.alloc zR _).alloc (by omega) _⟩
 replace h := hide h;replace hlen := hide hlen;replace hl := hide hl;clear hA hs0 hf0 hm0;go_enter Tryz.func241, Tryz.ntmps241;go_upto_region 2 with fail;go_upto_region 3 with fail;clear hmk hmm z1;generalize ((w.alloc (.map #[] 0)).alloc (.cells (madeCells #[.int .i64 0] n) 2)) = W0 at *;go_upto_region 4 with fail
 go_loopg [15] n (fun J i wr => ∃ k : Nat, k ≤ n ∧ i = .int .i64 (k : Int) ∧ Hid (NrmS w wr w.heap.size (w.heap.size + 1) n l k) ∧ Hid (n - k ≤ J))
 case atStart => exact ⟨0, Nat.zero_le _, rfl, hst, by show _ ≤ _; omega⟩
 case round =>
  clear hst;obtain ⟨k, hk, rfl, hs, hJ⟩ := hrel
  by_cases hlt : k < n
  ·obtain ⟨J2, rfl⟩ : ∃ J2, gk = J2 + 1 := ⟨gk - 1, by have := hJ.out; omega⟩
   have hJ2 : Hid (n - (k + 1) ≤ J2) := by have := hJ.out; show _ ≤ _; omega
   obtain ⟨b, off, u, rfl, -, -, g3, hx, p0, -⟩ := SlI.get (h.out.below hs.out.bel (.inr zR)) hlt;rw [List.getElem?_map] at hx;obtain ⟨x, hx', rfl⟩ := Option.map_eq_some_iff.1 hx;clear hx;have hx := hx';clear hx';replace p0 : wr.cell? ⟨b, off + k, none⟩ = some (.int .i64 (x : Int)) := p0;have hxl := hl.out x (List.mem_of_getElem? hx);have hsu := nrm_succ hx;have hbl := nrm_blk (l := l) (k := k);have hpk : (((nrmE l n).1[k]?).getD 0) = (plcE (nrmE l k).2 x : Int) := by
    have hp := nrm_pre (l := l) (show k + 1 ≤ n by omega) (by rw [hlen.out]; exact zR);have h1 : (nrmE l (k + 1)).1[k]? = some (plcE (nrmE l k).2 x : Int) := by
     rw [hsu];dsimp only;rw [List.getElem?_append_right (by rw [nrm_len (by rw [hlen.out]; omega)]; exact zR), nrm_len (by rw [hlen.out]; omega), Nat.sub_self]
     rfl
    obtain ⟨t, ht⟩ := hp;rw [← ht, List.getElem?_append_left (by rw [nrm_len (by rw [hlen.out]; omega)]; omega), h1]
    rfl
   have hstep := intK_step (p := fun v => ((nrmE l n).1[v]?).getD 0) hlt;rw [hpk] at hstep;have hwx : (Lit.int .i64 (x : Int)).wf = true := WalkArith.wf_i64 (by omega);obtain ⟨lc, hlk, hlv⟩ := hs.out.map.lookOk hwx;have hI0 : (0 : Int) ≤ (k : Int) := by omega
   have hI1 : (k : Int) < (n : Int) := by omega
   by_cases hin : x ∈ (nrmE l k).2
   ·have hf : fMN (nrmE l k).2 (x : Int) = some (plcE (nrmE l k).2 x : Int) := by unfold fMN; rw [if_pos ⟨by omega, by rw [Int.toNat_natCast]; exact hin⟩, Int.toNat_natCast]
    have hc := hlv _ hf;subst hc;rw [hf] at hlk;replace hlk : (Instr.lookup 299 (.map (some w.heap.size)) (.int .i64 (x : Int)) true).run Tryz.prog wr = .ok (.tuple #[.int .i64 (plcE (nrmE l k).2 x : Int), .bool true]) wr := hlk;obtain ⟨b', off', y, e9, -, -, g4, -, q0, q1⟩ := SlI.get hs.out.out hlt;injection e9 with e9;injection e9 with e9 e8;subst e9 e8;rw [Nat.zero_add] at q0 q1;have hput := SlI.put' hs.out.out hlt (plcE (nrmE l k).2 x : Int);rw [hstep, Nat.zero_add] at hput;rw [if_pos hin] at hsu;have h2 : (nrmE l (k + 1)).2 = (nrmE l k).2 := by rw [hsu]
    have hsn : Hid (NrmS w (wr.setCell ⟨w.heap.size + 1, k, none⟩ (.int .i64 (plcE (nrmE l k).2 x : Int))) w.heap.size (w.heap.size + 1) n l (k + 1)) := by
     refine ⟨?_, hput, hs.out.bel.setCell (by show w.heap.size ≤ w.heap.size + 1; omega) _⟩;rw [h2];exact hs.out.map.keep (Below.heap_setCell _ _ _ _ (by show w.heap.size ≠ w.heap.size + 1; omega))
    generalize plcE (nrmE l k).2 x = pv at *;clear hs hx hsu hbl hpk hstep hlv hin hf hput h2 hwx;go_wp2_with fail
    go_roundg J2
    case measure => omega
    case rel => exact ⟨k + 1, by omega, by go_num, hsn, hJ2⟩
   ·have hf : fMN (nrmE l k).2 (x : Int) = none := by unfold fMN; rw [if_neg (fun g => hin (by have := g.2; rwa [Int.toNat_natCast] at this))]
    rw [hf] at hlk;replace hlk : (Instr.lookup 299 (.map (some w.heap.size)) (.int .i64 (x : Int)) true).run Tryz.prog wr = .ok (.tuple #[.int .i64 lc, .bool false]) wr := hlk;have hml := fun ty => hs.out.map.len ty
    rw [plc_out hin] at hstep hsu;obtain ⟨w2, hu, hm2, hg2⟩ := hs.out.map.add (by unfold maxLen; omega) (c := ((nrmE l k).2.length : Int)) hwx (WalkArith.wf_i64 (by omega)) hf;rw [fMN_add hin] at hm2;rw [if_neg hin] at hsu;have h2 : (nrmE l (k + 1)).2 = (nrmE l k).2 ++ [x] := by rw [hsu]
    have hs2 : SlI w2 (w.heap.size + 1) (w.heap.size + 1 + 1) (some ⟨w.heap.size + 1, 0, none⟩) n (intK n k fun v => ((nrmE l n).1[v]?).getD 0) := Sl.keep hs.out.out hg2.size fun b h1 h2 h3 => hg2.block b h3 (fun e => by have := Option.some.inj e; omega)
    obtain ⟨b', off', y, e9, -, -, g4, -, q0, q1⟩ := SlI.get hs2 hlt;injection e9 with e9;injection e9 with e9 e8;subst e9 e8;rw [Nat.zero_add] at q0 q1;have hput := SlI.put' hs2 hlt ((nrmE l k).2.length : Int);rw [hstep, Nat.zero_add] at hput;have hsn : Hid (NrmS w (w2.setCell ⟨w.heap.size + 1, k, none⟩ (.int .i64 ((nrmE l k).2.length : Int))) w.heap.size (w.heap.size + 1) n l (k + 1)) := by
     refine ⟨?_, hput, ?_⟩
     ·rw [h2, List.length_append]
      exact hm2.keep (Below.heap_setCell _ _ _ _ (by show w.heap.size ≠ w.heap.size + 1; omega))
     ·have hb2 : Below w.heap.size w w2 := ⟨hg2.os.trans hs.out.bel.os, hg2.tape.trans hs.out.bel.tape, hg2.output.trans hs.out.bel.output, Nat.le_trans hs.out.bel.size hg2.size, fun b hb => (hg2.block b (Nat.lt_of_lt_of_le hb hs.out.bel.size) (fun e => by have := Option.some.inj e; omega)).trans (hs.out.bel.block b hb)⟩
      exact hb2.setCell (by show w.heap.size ≤ w.heap.size + 1; omega) _
    generalize (nrmE l k).2.length = pv at *;clear hs hx hsu hbl hpk hstep hlv hin hf hput h2 hwx hm2 hs2 hg2;go_wp2_with fail
    go_roundg J2
    case measure => omega
    case rel => exact ⟨k + 1, by omega, by go_num, hsn, hJ2⟩
  ·have hkn : k = n := by omega
   subst hkn;have hall : (List.range k).map (fun v => ((nrmE l k).1[v]?).getD 0) = (nrmE l k).1 := by
    apply List.ext_getElem?
    intro i;have hl := nrm_len (l := l) (k := k) (by rw [hlen.out]; exact zR)
    by_cases hi : i < k
    ·rw [List.getElem?_map, List.getElem?_range hi, Option.map_some, List.getElem?_eq_getElem (by omega)]
     rfl
    ·rw [List.getElem?_eq_none (by simp; omega), List.getElem?_eq_none (by omega)]
   have hres := hs.out.out;rw [intK_all, hall] at hres;have hbw := hs.out.bel;have hres2 := hide fun (hz : w.heap.size + 1 + 1 ≤ wr.heap.size) => hres.more (show w.heap.size ≤ w.heap.size + 1 by omega) hz
   have hz : Hid (k = 0 ∨ w.heap.size + 1 + 1 ≤ wr.heap.size) := by
    show _ ∨ _
    by_cases h0 : 0 < k
    ·obtain ⟨b', off', y, e9, -, -, g4, -⟩ := SlI.get hs.out.out h0
     injection e9 with e9;injection e9 with e9 e8;subst e9;exact .inr g4
    ·exact .inl (by omega)
   replace hres := hide hres;replace hbw := hide hbw;clear hs hall;go_wp2_with fail;go_ret;refine ⟨w.heap.size + 1, rfl, ?_, hbw.out⟩
   rcases hz.out with h0 | h1
   ·have := hres.out
    exact ⟨this.1, fun hp => absurd hp (by omega)⟩
   ·exact hres2.out h1
theorem plc_idx (L : List Nat) (n : Nat) : (L.map Int.ofNat).idxOf (n : Int) = plcE L n := by
 induction L with
 | nil => rfl
 | cons a L ih =>
  unfold plcE at ih ⊢;rw [List.map_cons, List.idxOf_cons, List.findIdx?_cons]
  by_cases e : a = n
  ·subst e; simp
  ·rw [beq_eq_false_iff_ne.2 (show Int.ofNat a ≠ (n : Int) from fun h => e (Int.ofNat.inj h)), decide_eq_false e]
   simp only [cond_false, Bool.false_eq_true, if_false];rw [ih]
   cases h : List.findIdx? (fun x => decide (x = n)) L with
   | none => simp
   | some v => simp
theorem nrm_firsts (l : List Nat) : ∀ k, k ≤ l.length → (nrmE l k).2.map Int.ofNat = firsts [] ((l.take k).map Int.ofNat) ∧ (nrmE l k).1 = ((l.take k).map Int.ofNat).map fun x => ((firsts [] ((l.take k).map Int.ofNat)).idxOf x : Int)
 | 0, _ => ⟨rfl, rfl⟩
 | k + 1, hk => by
  obtain ⟨h1, h2⟩ := nrm_firsts l k (by omega);have hx : l[k]? = some (l[k]'(by omega)) := List.getElem?_eq_getElem _;generalize (l[k]'(by omega)) = x at hx;rw [nrm_succ hx, List.take_add_one, hx];have e : (l.take k ++ (some x).toList).map Int.ofNat = (l.take k).map Int.ofNat ++ [(x : Int)] := by simp
  rw [e];have hf : ∀ F m : List Int, firsts F (m ++ [(x : Int)]) = firsts (firsts F m) [(x : Int)] := fun F m => by
   induction m generalizing F with
   | nil => rfl
   | cons y m ih => exact ih _
  have hone : ∀ F : List Int, firsts F [(x : Int)] = if (x : Int) ∈ F then F else F ++ [(x : Int)] := fun F => rfl
  have hmem : x ∈ (nrmE l k).2 ↔ (x : Int) ∈ firsts [] ((l.take k).map Int.ofNat) := by
   rw [← h1, List.mem_map]
   constructor
   ·intro h; exact ⟨x, h, rfl⟩
   ·rintro ⟨y, hy, e⟩
    have : y = x := Int.ofNat.inj e;rw [← this]; exact hy
  have hidx := plc_idx (nrmE l k).2 x;rw [h1] at hidx;have hold : ∀ z, z ∈ (l.take k).map Int.ofNat → (firsts [] ((l.take k).map Int.ofNat ++ [(x : Int)])).idxOf z = (firsts [] ((l.take k).map Int.ofNat)).idxOf z := fun z hz => by
   have hz2 : z ∈ firsts [] ((l.take k).map Int.ofNat) := firsts_mem.2 (.inr hz);rw [hf, hone]
   split
   ·rfl
   ·rw [List.idxOf_append, if_pos hz2]
  have hnew : (firsts [] ((l.take k).map Int.ofNat ++ [(x : Int)])).idxOf (x : Int) = plcE (nrmE l k).2 x := by
   rw [hf, hone, ← hidx]
   split
   ·rfl
   ·rename_i hn
    rw [List.idxOf_append, if_neg hn, List.idxOf_eq_length hn]
    simp
  refine ⟨?_, ?_⟩
  ·show (if x ∈ (nrmE l k).2 then (nrmE l k).2 else (nrmE l k).2 ++ [x]).map Int.ofNat = _
   rw [hf, hone]
   by_cases h : x ∈ (nrmE l k).2
   ·rw [if_pos h, if_pos (hmem.1 h), h1]
   ·rw [if_neg h, if_neg (fun g => h (hmem.2 g)), List.map_append, h1]; rfl
  ·show (nrmE l k).1 ++ [(plcE (nrmE l k).2 x : Int)] = _
   rw [List.map_append, h2]
   congr 1
   ·exact List.map_congr_left fun z hz => by rw [hold z hz]
   ·simp only [List.map_cons, List.map_nil]
    rw [hnew]
theorem nrm_normF (l : List Nat) : (nrmE l l.length).1 = normF (l.map Int.ofNat) := by
 have := (nrm_firsts l l.length zR).2;rw [List.take_length] at this;exact this
theorem ofNat_list {l : List Int} (h : ∀ x, x ∈ l → 0 ≤ x) : ∃ m : List Nat, l = m.map Int.ofNat := by
 refine ⟨l.map Int.toNat, ?_⟩;rw [List.map_map];refine (List.map_id l).symm.trans (List.map_congr_left fun x hx => ?_);have := h x hx
 show x = ((x.toNat : Nat) : Int)
 omega
theorem normalF_calls (A : Option Addr) (n c : Nat) (l : List Int) (w : World) (lo hi : Nat) (h : SlI w lo hi A n l) (hn : n ≤ 1048576) (hl : ∀ x, x ∈ l → 0 ≤ x ∧ x ≤ 1048576) :
  Calls Tryz.prog 241 #[.slice A n c] w fun e w' => ∃ B, e = .returned (.slice (some ⟨B, 0, none⟩) n n) ∧ SlI w' w.heap.size w'.heap.size (some ⟨B, 0, none⟩) n (normF l) ∧ Below w.heap.size w w' := by
 obtain ⟨m, rfl⟩ := ofNat_list fun x hx => (hl x hx).1
 have hlen := h.len;rw [List.length_map] at hlen;have hq := normal_calls A n c m w lo hi h hn fun x hx => by have : (x : Int) ≤ 1048576 := (hl (Int.ofNat x) (List.mem_map_of_mem hx)).2; omega
 rw [← hlen, nrm_normF, hlen] at hq;exact hq
theorem normalKeys1_calls (Ak : Option Addr) (m d : Nat) (s : List Int) (be : Nat) (Ae : Option Addr) (me de : Nat) (key : List Int) (w : World) (lo hi lo' hi' : Nat) (h : SlI w lo hi Ak m s) (hm : m ≤ 1048576) (ke : w.cell? ⟨be, 0, none⟩ = some (.slice Ae me de)) (g : SlI w lo' hi' Ae me key) (hme : me ≤ 1048576) :
  Calls Tryz.prog 240 #[.slice Ak m d, .pointer (some ⟨be, 0, none⟩)] w (Says (decide (s = key)) w) := by
 have q := hide (equalI_calls Ak Ae m me d de s key w _ _ _ _ h g hm hme);clear h g;go_enter Tryz.func240, Tryz.ntmps240;go_wp2_with fail;refine q.out.mono ?_;rintro e w1 ⟨rfl, hb⟩;replace hb := hide hb;go_wp2_with fail;go_ret;exact ⟨rfl, hb.out⟩
theorem nkL_at {α : Type} [BEq α] {keys : List α} {k : Nat} {x : α} (h : keys[k]? = some x) : (nkL keys)[k]? = some (keys.idxOf x : Int) := by
 unfold nkL; rw [List.getElem?_map, h]; rfl
theorem idx_fst {keys : List (List Int)} {k : Nat} {x : List Int} (hx : keys[k]? = some x) {i : Int} (h : fstG (fun s => decide (s = x)) (keys.take k) i) : (if i < 0 then (k : Int) else i) = (keys.idxOf x : Int) := by
 have hk := List.getElem?_eq_some_iff.1 hx;have key : ∀ (j : Nat), j ≤ k → ((keys.take j).any fun s => decide (s = x)) = false → keys[j]? = some x → keys.idxOf x = j := by
  intro j hj ha hjx;have hn : x ∉ keys.take j := fun hm => by
   have := List.any_eq_false.1 ha x hm
   simp at this
  have hjl := (List.getElem?_eq_some_iff.1 hjx).1;have e : keys = keys.take j ++ keys.drop j := (List.take_append_drop j keys).symm;have hd : keys.drop j = x :: keys.drop (j + 1) := by
   rw [List.drop_eq_getElem_cons hjl, (List.getElem?_eq_some_iff.1 hjx).2]
  rw [e, List.idxOf_append, if_neg hn, hd, List.idxOf_cons]
  simp
  omega
 rcases h with ⟨rfl, ha⟩ | ⟨j, rfl, hj, ha, y, hy, hg⟩
 ·rw [if_pos (by omega), key k zR ha hx]
 ·rw [List.length_take] at hj
  rw [if_neg (by omega)];have hy2 : keys[j]? = some y := by rw [← hy, List.getElem?_take]; simp; omega
  rw [List.take_take, show min j k = j by omega] at ha;rw [key j (by omega) ha (by rw [hy2, of_decide_eq_true hg])]
theorem normalKeys_calls (A : Option Addr) (n c : Nat) (R : List (Hd × List Int)) (w : World) (lo hi : Nat) (h : RowsI 1048576 w lo hi A n R) (hn : n ≤ 1000) (hc : n ≤ c) :
  Calls Tryz.prog 162 #[.slice A n c] w fun e w' => ∃ B, e = .returned (.slice (some ⟨B, 0, none⟩) n n) ∧ SlI w' w.heap.size w'.heap.size (some ⟨B, 0, none⟩) n (nkF (R.map (·.2))) ∧ Below w.heap.size w w' := by
 have hEi := hide elem_int;have hER := hide elem_rowI;have hlen : R.length = n := by have := h.1.len; rwa [List.length_map] at this
 have hkl : (R.map (·.2)).length = n := by rw [List.length_map]; exact hlen
 have hnl : (nkL (R.map (·.2))).length = n := by simp [nkL, hlen]
 replace h := hide h;replace hnl := hide hnl;replace hkl := hide hkl;replace hlen := hide hlen;go_enter Tryz.func162, Tryz.ntmps162;go_wp2_with fail
 go_loopw [3, 9] (fun v3 v9 wr => ∃ (k : Nat) (A3 : Option Addr) (c3 : Nat), k ≤ n ∧ v9 = .int .i64 (k : Nat) ∧ v3 = .slice A3 k c3 ∧ Hid (Own 1 iv wr w.heap.size 2 A3 k c3 ((nkL (R.map (·.2))).take k)) ∧ Hid (Below w.heap.size w wr)) (fun _ v _ => n - (intOf v).toNat)
 case atStart => exact ⟨0, none, 0, Nat.zero_le _, rfl, rfl, Own.nil_ _ _ _, bR⟩
 case round =>
  obtain ⟨k, A3, c3, hk, rfl, rfl, hO, hb⟩ := hrel
  by_cases hlt : k < n
  ·have k0 : (0 : Int) ≤ (k : Int) := by omega
   have k1 : (k : Int) < (n : Int) := by omega
   have hxr : R[k]? = some (R[k]'(by have := hlen.out; omega)) := List.getElem?_eq_getElem _;have hmem : (R[k]'(by have := hlen.out; omega)) ∈ R := List.getElem_mem _;obtain ⟨hs0, hm0⟩ := h.out.2 _ hmem;obtain ⟨b, off, hA, g1, g2, g3, hc0⟩ := h.out.1.at_ (show 0 < n by omega);have c0 := (hc0 k _ (by rw [List.getElem?_map, hxr]; rfl) 0 _ rfl).1;rw [Nat.mul_one, Nat.add_zero] at c0;generalize (R[k]'(by have := hlen.out; omega)) = r at *;obtain ⟨⟨Ah, m, ch⟩, s⟩ := r
   (try dsimp only at hs0 hm0 c0)
   replace c0 := (hb.out.cell (p := ⟨b, off + k, none⟩) g3).trans c0;subst hA;have hx2 : (R.map (·.2))[k]? = some s := by rw [List.getElem?_map, hxr]; rfl
   -- the box of the key
   have hbE := hb.out.alloc hb.out.size (.cells #[.slice Ah m ch] 32);have hbE1 := (Below.refl wr.heap.size wr).alloc zR (.cells #[.slice Ah m ch] 32);have kE := heap_alloc_new wr (.cells #[.slice Ah m ch] 32);have hOE := hO.out.alloc (.cells #[.slice Ah m ch] 32);obtain ⟨wE, hwE⟩ : ∃ wE, wE = wr.alloc (.cells #[.slice Ah m ch] 32) := ⟨_, rfl⟩;rw [← hwE] at hbE hbE1 kE hOE;obtain ⟨be, hbe⟩ : ∃ be, be = wr.heap.size := ⟨_, rfl⟩;rw [← hbe] at kE;have hbel : be < wE.heap.size := (Array.getElem?_eq_some_iff.1 kE).1;have hslice : ∀ W : World, (Instr.slice 162 (.slice (some ⟨b, off, none⟩) n c) none (some (.int .i64 (k : Int))) none).run Tryz.prog W = .ok (.slice (some ⟨b, off, none⟩) k c) W := fun W => run_head hER.out _ n c k (by omega) W
   have hRk : RowsI 1048576 wE lo hi (some ⟨b, off, none⟩) k (R.take k) := by
    have hR := h.out;refine ⟨?_, fun r hr => ?_⟩
    ·have h1 := hR.1.below hbE (.inr zR)
     refine ⟨by rw [List.length_map, List.length_take, hlen.out]; omega, fun hk0 => ?_⟩;obtain ⟨b', off', e', g1', g2', g3', hcc⟩ := h1.at_ (show 0 < n by omega);refine ⟨b', off', e', g1', g2', g3', fun i x hx j u hu => hcc i x ?_ j u hu⟩;rw [List.getElem?_map] at hx ⊢;rw [List.getElem?_take] at hx
     split at hx
     ·exact hx
     ·simp at hx
    ·obtain ⟨h1, h2⟩ := hR.2 r (List.mem_of_mem_take hr)
     exact ⟨h1.below hbE (.inr zR), h2⟩
   have hsE := hs0.below hbE (.inr zR);have hkeW := hide (fun (W : World) (hW : Below wE.heap.size wE W) => (cell_of_row W be 0 _ _ (0, 0) ((hW.block be hbel).trans kE)).trans rfl);have qI := indexFuncR_calls 240 #[.pointer (some ⟨be, 0, none⟩)] (fun l => decide (l = s)) (some ⟨b, off, none⟩) k c (R.take k) wE lo hi hRk (by omega)
    (fun v W => by kernel_rfl)
    (fun A2 m2 d2 l2 W hmemW hW hsW hm2 => normalKeys1_calls A2 m2 d2 l2 be Ah m ch s W _ _ _ _ hsW hm2 (hkeW.out W hW) (hsE.below hW (.inr zR)) hm0)
   replace qI := hide qI;replace kE := hide kE;replace hbE := hide hbE;replace hbE1 := hide hbE1;replace hOE := hide hOE;replace hx2 := hide hx2;clear hs0 hxr hmem hc0 hRk hsE hkeW;go_upto_region 5 with fail;rw [← hwE, ← hbe];replace hwE := hide hwE;replace hbe := hide hbe;clear c0;go_wp2_with fail;refine qI.out.mono ?_;rintro e w5 ⟨i, rfl, hf, hb5⟩;have hidx : (if i < 0 then (k : Int) else i) = ((R.map (·.2)).idxOf s : Int) := idx_fst hx2.out (by rw [← List.map_take]; exact hf);have hO5 := hide (hOE.out.keep (w' := w5) fun g e => hb5.block g (hOE.out.lt g e).2);have hB5 := hide (hbE.out.trans (hb5.mono hbE.out.size));have hz5 := hB5.out.size;have hnx := hide (nkL_at hx2.out);obtain ⟨iv2, hiv2⟩ : ∃ iv2 : Int, iv2 = ((R.map (·.2)).idxOf s : Int) := ⟨_, rfl⟩;rw [← hiv2] at hnx hidx;replace hiv2 := hide hiv2;have hza : w.heap.size ≤ (w5.alloc (.cells #[.int .i64 iv2] 2)).heap.size := by rw [World.size_alloc]; omega
   have hOa := hide (hO5.out.alloc (.cells #[.int .i64 iv2] 2));have hBa := hide (hB5.out.alloc hz5 (.cells #[.int .i64 iv2] 2));have hrow := hide (fun q (e : (Value.slice A3 k c3).ownBlock = some q) => (hOa.out.lt q e).1);replace hb5 := hide hb5;replace hf := hide hf;have htk : Hid ((nkL (R.map (·.2))).take k ++ [iv2] = (nkL (R.map (·.2))).take (k + 1)) := by show _ = _; rw [List.take_add_one, hnx.out]; rfl
   clear qI hO hOE hslice
   by_cases hi0 : i < 0
   ·rw [if_pos hi0] at hidx
    subst hidx;go_wp2_with (first | (at_builtin; (with_reducible refine wpList_app rfl (.tmp 22) (.tmp 24) rfl hEi.out flat_iv rfl hOa.out rfl (Sl.lit1' w5 2 (k : Int) _ rfl 1 _ ?d0) ?d1 hza ?_); rotate_right; intro A6 c6 w6 hown6 hgr6 hb6 hat6))
    case d0 => rfl
    case d1 => omega
    have hB6 := hide (hBa.out.grown hgr6 hBa.out.size (fun q e => hrow.out q e));rw [htk.out] at hown6;replace hown6 := hide hown6;clear hgr6 hb6 hat6 hOa hBa hrow;go_wp2_with fail;go_roundw
    case rel => exact ⟨k + 1, A6, c6, by omega, by go_num, rfl, hown6.out, hB6.out⟩
    case measure => simp [intOf]; omega
   ·rw [if_neg hi0] at hidx
    subst hidx;go_wp2_with (first | (at_builtin; (with_reducible refine wpList_app rfl (.tmp 22) (.tmp 24) rfl hEi.out flat_iv rfl hOa.out rfl (Sl.lit1' w5 2 i _ rfl 1 _ ?d0) ?d1 hza ?_); rotate_right; intro A6 c6 w6 hown6 hgr6 hb6 hat6))
    case d0 => rfl
    case d1 => omega
    have hB6 := hide (hBa.out.grown hgr6 hBa.out.size (fun q e => hrow.out q e));rw [htk.out] at hown6;replace hown6 := hide hown6;clear hgr6 hb6 hat6 hOa hBa hrow;go_wp2_with fail;go_roundw
    case rel => exact ⟨k + 1, A6, c6, by omega, by go_num, rfl, hown6.out, hB6.out⟩
    case measure => simp [intOf]; omega
  ·obtain rfl : k = n := by omega
   have k1 : ¬ (k : Int) < (k : Int) := by omega
   have hl : (nkL (R.map (·.2))).take k = nkL (R.map (·.2)) := List.take_of_length_le (by rw [hnl.out]; exact zR);rw [hl] at hO;have hz := hb.out.size;have qN := hide (normalF_calls A3 k c3 (nkL (R.map (·.2))) wr _ _ (hO.out.sl flat_iv) (by omega) (fun x hx => by
    unfold nkL at hx;obtain ⟨y, hy, rfl⟩ := List.mem_map.1 hx;have := List.idxOf_lt_length_of_mem hy;rw [hkl.out] at this
    omega))
   clear hO hl;go_wp2_with fail;refine qN.out.mono ?_;rintro e w5 ⟨B, rfl, hB, hb5⟩;have hB2 := hide (hB.more hz zR);replace hb5 := hide (hb.out.trans (hb5.mono hz));clear qN;go_wp2_with fail;go_ret;exact ⟨B, rfl, hB2.out, hb5.out⟩
structure BackM (w : World) (bb base : Nat) (R : List (Hd × List Int)) : Prop where
 outer : ∃ cur : Array Value, w.heap[bb]? = some (.cells cur 32 (0, 0)) ∧ cur.size = R.length ∧ ∀ (i : Nat) (r : Hd × List Int), R[i]? = some r → cur[i]? = some (.slice r.1.1 r.1.2.1 r.1.2.2)
 rows : ∀ (i : Nat) (r : Hd × List Int), R[i]? = some r → Own 1 iv w base 2 r.1.1 r.1.2.1 r.1.2.2 r.2
 apart : ∀ (i i' : Nat) (r r' : Hd × List Int), i ≠ i' → R[i]? = some r → R[i']? = some r' → (Value.slice r.1.1 r.1.2.1 r.1.2.2).ownBlock = none ∨ (Value.slice r.1.1 r.1.2.1 r.1.2.2).ownBlock ≠ (Value.slice r'.1.1 r'.1.2.1 r'.1.2.2).ownBlock
section
variable {w w' : World} {bb base : Nat} {R : List (Hd × List Int)}
theorem BackM.keep (h : BackM w bb base R) (hb : w'.heap[bb]? = w.heap[bb]?) (hk : ∀ b, base ≤ b → b < w.heap.size → w'.heap[b]? = w.heap[b]?) : BackM w' bb base R := by
 obtain ⟨cur, h1, h2⟩ := h.outer;exact ⟨⟨cur, hb.trans h1, h2⟩, fun i r hr => (h.rows i r hr).keep fun g hg => hk g ((h.rows i r hr).lt g hg).1 ((h.rows i r hr).lt g hg).2, h.apart⟩
theorem BackM.lt (h : BackM w bb base R) : bb < w.heap.size := by obtain ⟨cur, h1, _⟩ := h.outer; exact (Array.getElem?_eq_some_iff.1 h1).1
theorem BackM.alloc (h : BackM w bb base R) (o : Obj) : BackM (w.alloc o) bb base R := h.keep (Below.heap_alloc _ _ _ h.lt) fun b _ hb => Below.heap_alloc _ _ _ hb
theorem BackM.cell (h : BackM w bb base R) {i : Nat} {r : Hd × List Int} (hr : R[i]? = some r) : w.cell? ⟨bb, i, none⟩ = some (.slice r.1.1 r.1.2.1 r.1.2.2) ∧ w.frozen? ⟨bb, i, none⟩ = false := by
 obtain ⟨cur, h1, h2, h3⟩ := h.outer;exact ⟨(cell_of_row w bb i cur _ (0, 0) h1).trans (h3 i r hr), frozen_of_row w bb i cur _ h1⟩
theorem BackM.push (h : BackM w bb base R) (hbb : bb < base) (hbase : base ≤ w.heap.size) {i : Nat} {r : Hd × List Int} (hr : R[i]? = some r) {A' : Option Addr} {n' c' : Nat} {s' : List Int} (ho : Own 1 iv w' base 2 A' n' c' s') (hg : w.grownBy w' (Value.slice r.1.1 r.1.2.1 r.1.2.2).ownBlock)
  (hat : (Value.slice A' n' c').ownBlock = (Value.slice r.1.1 r.1.2.1 r.1.2.2).ownBlock ∨ (Value.slice A' n' c').ownBlock = some w.heap.size) :
  BackM (w'.setCell ⟨bb, i, none⟩ (.slice A' n' c')) bb base (R.set i ((A', n', c'), s')) := by
 have hi : i < R.length := (List.getElem?_eq_some_iff.1 hr).1;obtain ⟨cur, h1, h2, h3⟩ := h.outer;have hne : ∀ b, b < base → some b ≠ (Value.slice r.1.1 r.1.2.1 r.1.2.2).ownBlock := fun b hb e => by
  have := ((h.rows i r hr).lt b e.symm).1;omega
 have hkeep : ∀ g, base ≤ g → (w'.setCell ⟨bb, i, none⟩ (.slice A' n' c')).heap[g]? = w'.heap[g]? := fun g hg => Below.heap_setCell _ _ _ _ (by show g ≠ bb; omega)
 have key : ∀ i' r', i ≠ i' → R[i']? = some r' → Own 1 iv w' base 2 r'.1.1 r'.1.2.1 r'.1.2.2 r'.2 := fun i' r' hii hr' => (h.rows i' r' hr').kept hg (h.apart i' i r' r (Ne.symm hii) hr' hr)
 have keyA : ∀ i' r', i ≠ i' → R[i']? = some r' → (Value.slice r'.1.1 r'.1.2.1 r'.1.2.2).ownBlock = none ∨ (Value.slice r'.1.1 r'.1.2.1 r'.1.2.2).ownBlock ≠ (Value.slice A' n' c').ownBlock := fun i' r' hii hr' => by
  rcases hat with e | e
  ·rw [e]; exact h.apart i' i r' r (Ne.symm hii) hr' hr
  ·rw [e]
   cases e2 : (Value.slice r'.1.1 r'.1.2.1 r'.1.2.2).ownBlock with
   | none => exact .inl rfl
   | some b =>
    right
    intro e3;injection e3 with e3;have := ((h.rows i' r' hr').lt b e2).2;omega
 refine ⟨⟨cur.setIfInBounds i (.slice A' n' c'), heap_setCell_same w' bb i cur _ _ ((hg.block bb h.lt (hne bb hbb)).trans h1), by simp [h2], fun i' r' hr' => ?_⟩, fun i' r' hr' => ?_, fun i1 i2 r1 r2 hii hr1 hr2 => ?_⟩
 ·by_cases e : i = i'
  ·subst e
   rw [List.getElem?_set_self hi] at hr'
   cases hr'
   simp [Array.getElem?_setIfInBounds]
   omega
  ·rw [List.getElem?_set_ne e] at hr'
   rw [Array.getElem?_setIfInBounds_ne e];exact h3 i' r' hr'
 ·by_cases e : i = i'
  ·subst e
   rw [List.getElem?_set_self hi] at hr'
   cases hr'
   exact ho.keep fun g hgg => hkeep g (ho.lt g hgg).1
  ·rw [List.getElem?_set_ne e] at hr'
   have hk := key i' r' e hr';exact hk.keep fun g hgg => hkeep g (hk.lt g hgg).1
 ·by_cases e1 : i = i1
  ·subst e1
   rw [List.getElem?_set_self hi] at hr1
   cases hr1
   rw [List.getElem?_set_ne hii] at hr2
   rcases keyA i2 r2 hii hr2 with h4 | h4
   ·rw [h4]
    cases e2 : (Value.slice A' n' c').ownBlock with
    | none => exact .inl rfl
    | some b => right; simp
   ·exact .inr (Ne.symm h4)
  ·rw [List.getElem?_set_ne e1] at hr1
   by_cases e2 : i = i2
   ·subst e2
    rw [List.getElem?_set_self hi] at hr2
    cases hr2
    exact keyA i1 r1 e1 hr1
   ·rw [List.getElem?_set_ne e2] at hr2
    exact h.apart i1 i2 r1 r2 hii hr1 hr2
theorem BackM.rowsI (h : BackM w bb base R) (hn : ∀ (i : Nat) (r : Hd × List Int), R[i]? = some r → r.2.length ≤ 1048576) : RowsI 1048576 w 0 w.heap.size (some ⟨bb, 0, none⟩) R.length R := by
 obtain ⟨cur, h1, h2, h3⟩ := h.outer;refine ⟨⟨by rw [List.length_map], fun _ => ⟨bb, 0, rfl, Nat.zero_le _, h.lt, h.lt, fun k x hx j u hu => ?_⟩⟩, fun r hr => ?_⟩
 ·rw [List.getElem?_map] at hx
  obtain ⟨r, hr, rfl⟩ := Option.map_eq_some_iff.1 hx;have hj : j = 0 := by
   have := (List.getElem?_eq_some_iff.1 hu).1
   simp [sv] at this
   exact this
  subst hj
  simp [sv] at hu
  subst hu;have := h.cell hr
  simpa using this
 ·obtain ⟨i, hi⟩ := List.getElem?_of_mem hr
  have ho := h.rows i r hi;refine ⟨((ho.sl flat_iv).more (Nat.zero_le _) zR), ?_⟩;have := hn i r hi;rw [ho.len] at this;exact this
end
theorem info_rowI9 : (Tryz.prog.info? 32).map (fun i => (i.zero, i.size, i.bytes)) = some (some (.slice none 0 0), 1, 24) := by kernel_rfl
theorem run_make_rows (n : Nat) (hn : n ≤ 1048576) (W : World) : (Instr.makeSlice 162 (.int .i64 (n : Int)) (.int .i64 (n : Int))).run Tryz.prog W = .ok (.slice (some ⟨W.heap.size, 0, none⟩) n n) (W.alloc (.cells (madeCells #[.slice none 0 0] n) 32)) := by
 obtain ⟨i0, hi0, hz0, hz1, hz2⟩ := info_parts info_rowI9;have h := make_row (P := Tryz.prog) 162 32 i0 _ _ n Tryz.underlying162 hi0 hz0 hz1 (by rw [hz2]; omega) (by omega) W;rw [Nat.mul_one] at h;exact h
def RowsAre (R : List (Hd × List Int)) (N : Nat) (f : Nat → List Int) : Prop := R.length = N ∧ ∀ (j : Nat) (r : Hd × List Int), R[j]? = some r → r.2 = f j
theorem RowsAre.set {R : List (Hd × List Int)} {N : Nat} {f g : Nat → List Int} (h : RowsAre R N f) {i : Nat} {x : Hd × List Int} (hi : i < N) (hx : x.2 = g i) (hg : ∀ j, j ≠ i → j < N → g j = f j) : RowsAre (R.set i x) N g := by
 refine ⟨by rw [List.length_set]; exact h.1, fun j r hr => ?_⟩
 by_cases e : i = j
 ·subst e
  rw [List.getElem?_set_self (by rw [h.1]; exact hi)] at hr
  cases hr
  exact hx
 ·rw [List.getElem?_set_ne e] at hr
  rw [h.2 j r hr];have := (List.getElem?_eq_some_iff.1 hr).1;rw [h.1] at this;exact (hg j (fun e2 => e e2.symm) this).symm
theorem RowsAre.map {R : List (Hd × List Int)} {N : Nat} {f : Nat → List Int} (h : RowsAre R N f) : R.map (·.2) = (List.range N).map f := by
 apply List.ext_getElem (by simp [h.1])
 intro j h1 h2;rw [List.getElem_map, List.getElem_map, List.getElem_range];have hj : j < R.length := by simpa using h1
 exact h.2 j _ (List.getElem?_eq_getElem hj)
section
variable {w w' : World} {bb base N : Nat} {R : List (Hd × List Int)}
theorem BackM.made (w : World) (n : Nat) : BackM (w.alloc (.cells (madeCells #[.slice none 0 0] n) 32)) w.heap.size (w.heap.size + 1) (List.replicate n ((none, 0, 0), [])) := by
 have hg := heap_alloc_new w (.cells (madeCells #[.slice none 0 0] n) 32);have hr : ∀ (i : Nat) (r : Hd × List Int), (List.replicate n (((none, 0, 0), []) : Hd × List Int))[i]? = some r → i < n ∧ r = ((none, 0, 0), []) := fun i r hr => by
  have h1 := (List.getElem?_eq_some_iff.1 hr).1;rw [List.length_replicate] at h1;rw [List.getElem?_replicate, if_pos h1] at hr;exact ⟨h1, (Option.some.inj hr).symm⟩
 refine ⟨⟨_, hg, by simp [madeCells], fun i r h => ?_⟩, fun i r h => ?_, fun i i' r r' _ h _ => ?_⟩
 ·obtain ⟨h1, rfl⟩ := hr i r h
  simp [madeCells, h1, Nat.mod_one]
 ·obtain ⟨h1, rfl⟩ := hr i r h
  exact Own.nil_ _ _ _
 ·obtain ⟨h1, rfl⟩ := hr i r h
  exact .inl rfl
theorem BackM.keepR (h : BackM w bb base R) (hb : w'.heap[bb]? = w.heap[bb]?) (hk : ∀ (i : Nat) (r : Hd × List Int), R[i]? = some r → ∀ g, (Value.slice r.1.1 r.1.2.1 r.1.2.2).ownBlock = some g → w'.heap[g]? = w.heap[g]?) : BackM w' bb base R := by
 obtain ⟨cur, h1, h2⟩ := h.outer;exact ⟨⟨cur, hb.trans h1, h2⟩, fun i r hr => (h.rows i r hr).keep (hk i r hr), h.apart⟩
theorem BackM.below (h : BackM w bb base R) (hb : Below w.heap.size w w') : BackM w' bb base R := h.keep (hb.block bb h.lt) fun b _ h2 => hb.block b h2
end
theorem grown_alloc (w : World) (o : Obj) (row : Option Nat) : w.grownBy (w.alloc o) row := ⟨rfl, rfl, rfl, by rw [World.size_alloc]; omega, fun b hb _ => Below.heap_alloc _ _ _ hb⟩
end Go.Proofs.YtnhomkmfbngmgaaGreatDoor
