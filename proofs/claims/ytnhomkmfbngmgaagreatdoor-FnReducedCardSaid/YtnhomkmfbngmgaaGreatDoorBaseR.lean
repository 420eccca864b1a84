/-
  Lemmas that the law of this claim leans on. Conditions: sizes.
-/
import Derived.Test.YtnhomkmfbngmgaaGreatDoorBaseB
import Derived.Test.YtnhomkmfbngmgaaGreatDoorBaseC
import Derived.Test.YtnhomkmfbngmgaaGreatDoorBaseD
import Derived.Test.YtnhomkmfbngmgaaGreatDoorBaseF
import Derived.Test.YtnhomkmfbngmgaaGreatDoorBaseH
import Derived.Test.YtnhomkmfbngmgaaGreatDoorBaseK
import Derived.Test.YtnhomkmfbngmgaaGreatDoorBaseL
import Derived.Test.YtnhomkmfbngmgaaGreatDoorBaseM
import Derived.Test.YtnhomkmfbngmgaaGreatDoorBaseQ
import Derived.BigQuiet
import Derived.Deep.CutBlock
set_option maxHeartbeats 25600000
set_option maxRecDepth 100000
set_option linter.unusedSimpArgs false
set_option linter.unusedVariables false
namespace Go.Proofs.YtnhomkmfbngmgaaGreatDoor
open Go.ChangeShapes Go.WideShapes Go.ChangeAt Go.RowKit Go.Sort
theorem SysA.atS {w : World} {N ini : Nat} {A : Option Addr} {n : Nat} {B : Option Addr} {m : Nat} {ls : List ByteArray} {es : List Ed} (h : SysA w N ini A n B m ls es) {c d bx : Nat} (hbx : LtsBox w bx (N : Int) (ini : Int) A n c B m d) : LtsAt w bx ((N : Int), (ini : Int), .slice A n c, .slice B m d) ((N : Int), (ini : Int), ls, es) :=
 ⟨(h.read c d).1, (h.read c d).2, hbx.lt, hbx.c0, hbx.c1, hbx.c2, hbx.c3⟩
theorem find_in {l : List ByteArray} {s : ByteArray} {i : Int} (h : FindI l s i) (hs : s ∈ l) : 0 ≤ i ∧ i < (l.length : Int) := by
 rcases h with ⟨-, h⟩ | ⟨k, rfl, hk, -⟩
 ·exfalso
  unfold anyL at h;rw [List.any_eq_false] at h;exact h s hs (by simp)
 ·have := (List.getElem?_eq_some_iff.1 hk).1
  omega
theorem totS_one : ∀ {l : List ByteArray} {s : ByteArray}, s ∈ l → s.size ≤ totS l
 | a :: l, s, h => by
  rcases List.mem_cons.1 h with rfl | h
  ·unfold totS; simp; omega
  ·have := totS_one h
   unfold totS at this ⊢
   simp
   omega
theorem out_len {es : List Ed} {s : Int} : (outE es s).length ≤ es.length := List.length_filter_le _ _
theorem out_mem {es : List Ed} {s : Int} {e : Ed} (h : e ∈ outE es s) : e ∈ es := (List.mem_filter.1 h).1
section
variable {w : World} {Na ia : Nat} {A : Option Addr} {n : Nat} {B : Option Addr} {m : Nat} {la : List ByteArray} {ea : List Ed} {Nb ib : Nat} {A' : Option Addr} {n' : Nat} {B' : Option Addr} {m' : Nat} {lb : List ByteArray} {eb : List Ed}
theorem l11Steps_calls (h : SysA w Na ia A n B m la ea) (g : SysA w Nb ib A' n' B' m' lb eb) (c d c' d' ba bb : Nat) (ka : LtsBox w ba (Na : Int) (ia : Int) A n c B m d) (kb : LtsBox w bb (Nb : Int) (ib : Int) A' n' c' B' m' d')
  (J : List ByteArray) (Lb : Option Addr) (nJ cJ : Nat) (hJ : SlS w 0 w.heap.size Lb nJ J) (hJn : nJ ≤ 1048576) (sh : List ByteArray) (Sb : Option Addr) (nS cS : Nat) (hSh : SlS w 0 w.heap.size Sb nS sh) (hSn : nS ≤ 1048576)
  (hJa : ∀ s, s ∈ la → s ∈ J) (hJb : ∀ s, s ∈ lb → s ∈ J) (p : Int) (hp : 0 ≤ p ∧ p < ((Na * Nb : Nat) : Int)) :
  Calls Tryz.prog 255 #[.pointer (some ⟨ba, 0, none⟩), .pointer (some ⟨bb, 0, none⟩), .slice Lb nJ cJ, .slice Sb nS cS, .int .i64 p] w fun e w' => ∃ O nO cO s, e = .returned (.slice O nO cO) ∧ SlE w' w.heap.size w'.heap.size O nO s ∧ StepP (Na * Nb) nJ p s ∧ nO ≤ m * (m' + 1) + m' ∧ Below w.heap.size w w' := by
 have hEe := hide elem_edge;have hma := h.many;have hmb := g.many;obtain ⟨⟨hNa1, hNa2⟩, -⟩ := h.bounds;obtain ⟨⟨hNb1, hNb2⟩, -⟩ := g.bounds;have hJl := hJ.len;obtain ⟨x, y, hpe, hxa, hyb⟩ := pair_div hp;have hval : Hid (∀ {s : ByteArray}, s ∈ la ∨ s ∈ lb → s.size ≤ 1048576) := fun {s} hs => by
  rcases hs with hs | hs
  ·have := Nat.le_trans (totS_one hs) h.sz; omega
  ·have := Nat.le_trans (totS_one hs) g.sz; omega
 have hd1 : p.tdiv (Nb : Int) = (x : Int) := by
  rw [Int.tdiv_eq_ediv_of_nonneg hp.1, hpe, Int.add_comm, Int.add_mul_ediv_right _ _ (by omega), Int.ediv_eq_zero_of_lt (by omega) (by omega)];omega
 have hd2 : p.tmod (Nb : Int) = (y : Int) := by
  rw [Int.tmod_eq_emod_of_nonneg hp.1, hpe, Int.add_comm, Int.add_mul_emod_self_right, Int.emod_eq_of_lt (by omega) (by omega)]
 have hw1 : IntKind.i64.wrap (x : Int) = (x : Int) := IntWalk.i64_in _ (by omega);have hw2 : IntKind.i64.wrap (y : Int) = (y : Int) := IntWalk.i64_in _ (by omega);have hNb0 : (Nb : Int) ≠ 0 := by omega
 have hNb0n : ¬ Nb = 0 := by omega
 have hcode : Hid (∀ (u v : Int), 0 ≤ u ∧ u < (Na : Int) → 0 ≤ v ∧ v < (Nb : Int) → ∃ z1 z2 : Int, IntKind.i64.wrap (u * (Nb : Int)) = z1 ∧ IntKind.i64.wrap (z1 + v) = z2 ∧ 0 ≤ z2 ∧ z2 < ((Na * Nb : Nat) : Int)) := fun u v hu hv => by
  have h1 := pair_lt hu hv;have h2 := pair_lt (na := Na) (nb := Nb) (x := u) (y := 0) hu ⟨Int.le_refl _, by omega⟩;have h3 : ((Na * Nb : Nat) : Int) ≤ 1600 := by
   have : Na * Nb ≤ 40 * 40 := Nat.mul_le_mul hNa2 hNb2;omega
  refine ⟨u * (Nb : Int), u * (Nb : Int) + v, IntWalk.i64_in _ (by omega), IntWalk.i64_in _ (by omega), h1.1, h1.2⟩
 -- the list that is returned
 obtain ⟨w1, hw1'⟩ : ∃ w1, w1 = w.alloc (.cells #[] 84) := ⟨_, rfl⟩;have hb1 : Below w.heap.size w w1 := by rw [hw1']; exact bR.alloc zR _
 have z1 : w1.heap.size = w.heap.size + 1 := by rw [hw1']; exact World.size_alloc _ _
 have hO1 : Own 3 ev w1 w.heap.size 84 (some ⟨w.heap.size, 0, none⟩) 0 0 [] := by rw [hw1']; exact Own.made _ _ zR
 have qa := hide (l11Out_calls ba _ _ (x : Int) w1 ((h.below hb1 zR).atS (ka.below hb1 ka.lt)));have b0 := kb.c0;have hh := hide h;have gg := hide g;have kah := hide ka;have kbh := hide kb;have hJh := hide hJ;have hShh := hide hSh;have hJah := hide hJa;have hJbh := hide hJb;have hO1h := hide hO1;have hb1h := hide hb1;obtain ⟨z1a, z1b⟩ : w1.heap.size ≤ w.heap.size + 1 ∧ w.heap.size + 1 ≤ w1.heap.size := ⟨by omega, by omega⟩;replace hpe := hide hpe;clear h g ka kb hJ hSh hJa hJb hO1 hb1 z1 hp;go_enter Tryz.func255, Tryz.ntmps255;go_upto_region 4 with fail;rw [show w.alloc (.cells #[] 84) = w1 from hw1'.symm];replace hw1' := hide hw1';clear b0;go_wp2_with fail;refine qa.out.mono ?_;rintro e w2 ⟨L, nl, cL, rfl, hL, -, hb2⟩;have hnl : nl ≤ m := by have h1 := hL.len; have h2 := out_len (es := ea) (s := (x : Int)); have h3 := hh.out.se.len; (try dsimp only at h1); omega
 have hb02 := hb1h.out.trans (hb2.mono hb1h.out.size);have qb := hide (l11Out_calls bb _ _ (y : Int) w2 ((gg.out.below hb02 zR).atS (kbh.out.below hb02 kbh.out.lt)));have hz12 := hb2.size;have hb02h := hide hb02;have hb2h := hide hb2;have hLh := hide hL;clear qa hb02 hb2 hL;go_wp2_with fail;refine qb.out.mono ?_;rintro e w3 ⟨Q, nr, cQ, rfl, hQ, -, hb3⟩;have hnr : nr ≤ m' := by have h1 := hQ.len; have h2 := out_len (es := eb) (s := (y : Int)); have h3 := gg.out.se.len; (try dsimp only at h1); omega
 have hz23 := hb3.size;have hb03 := hb02h.out.trans (hb3.mono hb02h.out.size);have hC0 : Hid (OwnC 3 ev 84 w3 w.heap.size w3 (some ⟨w.heap.size, 0, none⟩) 0 0 []) :=
  ⟨(hO1h.out.below hb2h.out zR).below hb3 zR, fun g e => by injection e with e; exact .inl e.symm, Only.refl _ _ _⟩
 have hLh3 := hide (hLh.out.below hb3 (.inl zR));have hQh := hide hQ;have hb03h := hide hb03;have hAt : Hid (∀ {wx : World}, Only w.heap.size (w.heap.size + 1) w3 wx → (LtsBox wx ba (Na : Int) (ia : Int) A n c B m d ∧ SlS wx 0 w.heap.size A n la) ∧ (LtsBox wx bb (Nb : Int) (ib : Int) A' n' c' B' m' d' ∧ SlS wx 0 w.heap.size A' n' lb) ∧ SlS wx 0 w.heap.size Lb nJ J ∧ SlS wx 0 w.heap.size Sb nS sh ∧ SlE wx w1.heap.size w2.heap.size L nl (outE ea (x : Int)) ∧ SlE wx w2.heap.size w3.heap.size Q nr (outE eb (y : Int))) := fun {wx} ho =>
  ⟨⟨(kah.out.below hb03h.out kah.out.lt).only ho (.inl kah.out.lt), (hh.out.ss.below hb03h.out (.inl zR)).only ho (.inl zR)⟩,
   ⟨(kbh.out.below hb03h.out kbh.out.lt).only ho (.inl kbh.out.lt), (gg.out.ss.below hb03h.out (.inl zR)).only ho (.inl zR)⟩,
   (hJh.out.below hb03h.out (.inl zR)).only ho (.inl zR), (hShh.out.below hb03h.out (.inl zR)).only ho (.inl zR),
   hLh3.out.only ho (.inr (by omega)), hQh.out.only ho (.inr (by omega))⟩
 have hBel : Hid (∀ {wx : World}, Only w.heap.size (w.heap.size + 1) w3 wx → Below w.heap.size w wx) := fun {wx} ho => Only.below hb03h.out ho zR hb03h.out.size
 clear qb hQ hb3 hb03;go_wp2_with fail
 go_loopw [13, 16] (fun v13 v16 wr => ∃ (i mO cO : Nat) (O : Option Addr) (s : List Ed), i ≤ nl ∧ v16 = .int .i64 (i : Int) ∧ v13 = .slice O mO cO ∧ Hid (OwnC 3 ev 84 w3 w.heap.size wr O mO cO s) ∧ Hid (StepP (Na * Nb) nJ p s) ∧ mO ≤ i * (nr + 1)) (fun _ v _ => nl - (intOf v).toNat)
 case atStart => exact ⟨0, 0, 0, _, [], Nat.zero_le _, rfl, rfl, hC0.out, StepP.nil, Nat.zero_le _⟩
 case round =>
  obtain ⟨i, mO, cO, O, s, hi, rfl, rfl, hC, hP, hmO⟩ := hrel;clear hC0;obtain ⟨⟨kA, sA⟩, ⟨kB, sB⟩, sJ, sS, sL, sQ⟩ := hAt.out hC.out.only
  by_cases hlt : i < nl
  ·have hmul : (i + 1) * (nr + 1) = i * (nr + 1) + (nr + 1) := Nat.succ_mul i (nr + 1)
   have hm1 : (i + 1) * (nr + 1) ≤ 40 * 301 + 100000 := by
    have : (i + 1) * (nr + 1) ≤ 301 * 301 := Nat.mul_le_mul (by omega) (by omega);omega
   obtain ⟨gL, oL, f, l, t, rfl, -, -, hgL, hxl, a0, a1, a2, -⟩ := SlE.get sL hlt;have hmem := out_mem (List.mem_of_getElem? hxl);have hbd := (ltsV_edge hh.out.ok).1 _ hmem;dsimp only at hbd;have hnla := hh.out.ss.len;obtain ⟨l, rfl⟩ : ∃ k : Nat, l = (k : Int) := ⟨l.toNat, by omega⟩;obtain ⟨gA, oA, nm, rfl, -, -, hgA, hnm, pl, -⟩ := SlS.get sA (show l < n by omega);have hnmA := List.mem_of_getElem? hnm;have hsz1 := hval.out (.inl hnmA);have ca2 := kA.c2;have i0 : (0 : Int) ≤ (i : Int) := by omega
   have i1 : (i : Int) < (nl : Int) := by omega
   have l0 : (0 : Int) ≤ (l : Int) := by omega
   have l1 : (l : Int) < (n : Int) := by omega
   have hnmh := hide hnm;have hxlh := hide hxl;have hmOb : mO ≤ 130000 := by omega
   have hinr : i * (nr + 1) ≤ 130000 := by omega
   replace hmul := hide hmul;clear kA sA kB sB sJ sS sL sQ hxl hnm;obtain ⟨wS, rfl⟩ : ∃ wS : World, wS = wr := ⟨_, rfl⟩;go_upto_region 9 with fail;go_quiet (fail);obtain ⟨wq, hwq⟩ : ∃ wq, wq = wS.drewN nq := ⟨_, rfl⟩;have hbq : Below wS.heap.size wS wq := by rw [hwq]; exact below_drewN _ _
   rw [← hwq];replace hwq := hide hwq;have hCq := hide (hC.out.below hbq);obtain ⟨-, -, sJ, sS, -, -⟩ := hAt.out hCq.out.only;have qn := hide (l11Find_calls nm Lb nJ cJ J wq _ _ sJ hJn);have qs := hide (fun (s2 : ByteArray) => l11Find_calls s2 Sb nS cS sh wq _ _ sS hSn);have ql := hide (l01LabelName_calls nm wq hsz1);clear ca2 a0 a1 a2 pl sJ sS hbq hC;go_wp2_with fail;refine qn.out.mono ?_;rintro e wx ⟨lk, rfl, hlk, rfl⟩;obtain ⟨lk0, lk1⟩ := find_in hlk (hJah.out nm hnmA);replace hlk := hide hlk;clear qn;go_wp2_with fail;refine ql.out.mono ?_;rintro e wx ⟨rfl, rfl⟩;go_wp2_with fail;refine (qs.out _).mono ?_;rintro e wx ⟨sk, rfl, hsk, rfl⟩;replace hsk := hide hsk;clear ql qs
   by_cases hneg : sk < 0
   ·-- the name is not shared
    obtain ⟨v1, v2, hv1, hv2, hv3⟩ := hcode.out t (y : Int) hbd.2.2 (by omega);have hOD : Hid (OwnC 3 ev 84 w3 w.heap.size wq.drew O mO cO s) := hCq.out.below bR.drew;have hOa : Hid (OwnC 3 ev 84 w3 w.heap.size (wq.drew.alloc (.cells #[.int .i64 p, .int .i64 lk, .int .i64 v2] 84)) O mO cO s) := hOD.out.below (bR.alloc zR _);have hlit := hide (Sl.lit1' (f := ev) wq.drew 84 (p, lk, v2) #[.int .i64 p, .int .i64 lk, .int .i64 v2] rfl 3 _ rfl);have hza : w.heap.size ≤ (wq.drew.alloc (.cells #[.int .i64 p, .int .i64 lk, .int .i64 v2] 84)).heap.size := (hBel.out hOa.out.only).size;have hSs : Hid (∀ wx, Only w.heap.size (w.heap.size + 1) w3 wx → (fun w' : World => w'.cell? ⟨gL, oL + i * 3 + 2, none⟩ = some (.int .i64 t) ∧ w'.cell? ⟨bb, 0, none⟩ = some (.int .i64 (Nb : Int))) wx) := fun wx ho => by
     obtain ⟨-, ⟨kB, -⟩, -, -, sL, -⟩ := hAt.out ho;obtain ⟨gL2, oL2, f2, l2, t2, e2, -, -, -, hx2, -, -, b2, -⟩ := SlE.get sL hlt;cases e2;rw [hxlh.out] at hx2
     cases hx2
     exact ⟨b2, kB.c0⟩
    have hP2 := hide (hP.out.app ⟨lk0, by omega⟩ hv3);go_upto_region 12 with fail;refine lateT_begin (S := fun w' => w'.cell? ⟨gL, oL + i * 3 + 2, none⟩ = some (.int .i64 t) ∧ w'.cell? ⟨bb, 0, none⟩ = some (.int .i64 (Nb : Int))) (st := 18) (by kernel_rfl) ?_;have hS0 := hSs.out wq.drew hOD.out.only;refine tkA _ 0 [18] rfl (Or.inl ⟨by kernel_rfl, by intro w9 hSw; obtain ⟨u0, u1⟩ := hSw; go_simp <;> with_reducible rfl⟩) hS0 ?_;refine tkA _ 1 [18] rfl (Or.inl ⟨by kernel_rfl, by intro w9 hSw; obtain ⟨u0, u1⟩ := hSw; go_simp <;> with_reducible rfl⟩) hS0 ?_;refine tkA _ 2 [18] rfl (Or.inl ⟨by kernel_rfl, by intro w9 hSw; obtain ⟨u0, u1⟩ := hSw; go_simp <;> with_reducible rfl⟩) hS0 ?_;refine tkA _ 3 [18] rfl (Or.inl ⟨by kernel_rfl, by intro w9 hSw; obtain ⟨u0, u1⟩ := hSw; go_simp <;> with_reducible rfl⟩) hS0 ?_;refine tkA _ 4 [18] rfl (Or.inl ⟨by kernel_rfl, by intro w9 hSw; obtain ⟨u0, u1⟩ := hSw; go_simp <;> with_reducible rfl⟩) hS0 ?_;refine tkA _ 5 [18] rfl (Or.inl ⟨by kernel_rfl, by intro w9 hSw; obtain ⟨u0, u1⟩ := hSw; go_simp <;> with_reducible rfl⟩) hS0 ?_;refine tkA _ 6 [18] rfl (Or.inl ⟨by kernel_rfl, by intro w9 hSw; obtain ⟨u0, u1⟩ := hSw; go_simp <;> with_reducible rfl⟩) hS0 ?_;refine tkA _ 7 [18] rfl (Or.inl ⟨by kernel_rfl, by intro w9 hSw; obtain ⟨u0, u1⟩ := hSw; go_simp <;> with_reducible rfl⟩) hS0 ?_;refine tkA _ 8 [18] rfl (Or.inl ⟨by kernel_rfl, by intro w9 hSw; obtain ⟨u0, u1⟩ := hSw; go_simp <;> with_reducible rfl⟩) hS0 ?_;refine tkA _ 9 [18] rfl (Or.inl ⟨by kernel_rfl, by intro w9 hSw; obtain ⟨u0, u1⟩ := hSw; go_simp <;> with_reducible rfl⟩) hS0 ?_;refine tkA _ 10 [18] rfl (Or.inl ⟨by kernel_rfl, by intro w9 hSw; obtain ⟨u0, u1⟩ := hSw; go_simp <;> with_reducible rfl⟩) hS0 ?_;refine tkA _ 11 [18] rfl (Or.inl ⟨by kernel_rfl, by intro w9 hSw; obtain ⟨u0, u1⟩ := hSw; go_simp <;> with_reducible rfl⟩) hS0 ?_;refine tkA _ 12 [18] rfl (Or.inl ⟨by kernel_rfl, by intro w9 hSw; obtain ⟨u0, u1⟩ := hSw; go_simp <;> with_reducible rfl⟩) hS0 ?_;refine tkA _ 13 [18] rfl (Or.inl ⟨by kernel_rfl, by intro w9 hSw; obtain ⟨u0, u1⟩ := hSw; go_simp <;> with_reducible rfl⟩) hS0 ?_;refine tkA _ 14 [18] rfl (Or.inl ⟨by kernel_rfl, by intro w9 hSw; obtain ⟨u0, u1⟩ := hSw; go_simp <;> with_reducible rfl⟩) hS0 ?_;refine tkA _ 15 [18] rfl (Or.inl ⟨by kernel_rfl, by intro w9 hSw; obtain ⟨u0, u1⟩ := hSw; go_simp <;> with_reducible rfl⟩) hS0 ?_;refine lS 16 fun K hK => ?_
    go_simp;refine kP hK (fun _ => hSs.out _ hOa.out.only) ?_
    clear hK K;refine lS 17 fun K hK => ?_
    refine step_appL (m := 1) (d := 1) (by rfl) (.tmp 66) (.tmp 82) (by rfl) hEe.out flat_ev (by go_simp) hOa.out.own (by go_simp) hlit.out ?c1 hza ?_
    case c1 => omega
    intro A7 c7 w7 hown7 hgr7 hb7 hat7;have hO7 := hide (hOa.out.app hown7 hgr7 hat7);have hS9 := hSs.out w7 hO7.out.only;clear hown7 hgr7 hb7 hat7;refine kP hK (fun _ => hS9) ?_;clear hK K;refine lS 18 fun K hK => ?_
    go_simp;refine kP hK nH ?_
    clear hK K;refine lateT_done (by kernel_rfl) ?_ _;go_wp2_with fail;go_roundw
    case rel => exact ⟨i + 1, mO + 1, c7, A7, _, by omega, by go_num, rfl, hO7.out, hP2.out, by have := hmul.out; omega⟩
    case measure => simp [intOf]; omega
   ·-- the name is shared: together with steps of the other system
    go_wp2_with fail;obtain ⟨wI, rfl⟩ : ∃ wI : World, wI = wq := ⟨_, rfl⟩
    go_loopw [13, 19] (fun v13 v19 wr => ∃ (j mP cP : Nat) (P : Option Addr) (s2 : List Ed), j ≤ nr ∧ v19 = .int .i64 (j : Int) ∧ v13 = .slice P mP cP ∧ Hid (OwnC 3 ev 84 w3 w.heap.size wr P mP cP s2) ∧ Hid (StepP (Na * Nb) nJ p s2) ∧ mP ≤ i * (nr + 1) + j) (fun _ v _ => nr - (intOf v).toNat)
    case atStart => exact ⟨0, mO, cO, O, s, Nat.zero_le _, rfl, rfl, hCq.out, hP.out, by omega⟩
    case round =>
     obtain ⟨j, mP, cP, P, s2, hj, rfl, rfl, hC2, hP2, hmP⟩ := hrel;clear hCq hP;obtain ⟨-, ⟨kB, sB⟩, -, -, sL, sQ⟩ := hAt.out hC2.out.only
     by_cases hlt2 : j < nr
     ·obtain ⟨gQ, oQ, f2, l2, t2, rfl, -, -, hgQ, hxq, d0, d1, d2, -⟩ := SlE.get sQ hlt2
      have hbd2 := (ltsV_edge gg.out.ok).1 _ (out_mem (List.mem_of_getElem? hxq));dsimp only at hbd2;have hnlb := gg.out.ss.len;obtain ⟨l2, rfl⟩ : ∃ k : Nat, l2 = (k : Int) := ⟨l2.toNat, by omega⟩;obtain ⟨gB, oB, nm2, rfl, -, -, hgB, hnm2, pl2, -⟩ := SlS.get sB (show l2 < n' by omega);have cb2 := kB.c2;have j0 : (0 : Int) ≤ (j : Int) := by omega
      have j1 : (j : Int) < (nr : Int) := by omega
      have m0 : (0 : Int) ≤ (l2 : Int) := by omega
      have m1 : (l2 : Int) < (n' : Int) := by omega
      have hxqh := hide hxq;clear kB sB sL sQ hxq hnm2;obtain ⟨wZ, rfl⟩ : ∃ wZ : World, wZ = wr := ⟨_, rfl⟩;go_upto_region 16 with fail
      by_cases hs2 : nm2 = nm
      ·subst hs2
       have gs : (nm2.toList == nm2.toList) = true := beq_self_eq_true _;go_quiet (fail);obtain ⟨wz, hwz⟩ : ∃ wz, wz = wZ.drewN nq := ⟨_, rfl⟩;have hbz : Below wZ.heap.size wZ wz := by rw [hwz]; exact below_drewN _ _
       rw [← hwz];replace hwz := hide hwz;have hCz := hide (hC2.out.below hbz);clear cb2 d0 d1 d2 pl2 hbz hC2;obtain ⟨v1, v2, hv1, hv2, hv3⟩ := hcode.out t t2 hbd.2.2 hbd2.2.2;have hOD : Hid (OwnC 3 ev 84 w3 w.heap.size wz.drew P mP cP s2) := hCz.out.below bR.drew;have hOa : Hid (OwnC 3 ev 84 w3 w.heap.size (wz.drew.alloc (.cells #[.int .i64 p, .int .i64 lk, .int .i64 v2] 84)) P mP cP s2) := hOD.out.below (bR.alloc zR _);have hlit := hide (Sl.lit1' (f := ev) wz.drew 84 (p, lk, v2) #[.int .i64 p, .int .i64 lk, .int .i64 v2] rfl 3 _ rfl);have hza : w.heap.size ≤ (wz.drew.alloc (.cells #[.int .i64 p, .int .i64 lk, .int .i64 v2] 84)).heap.size := (hBel.out hOa.out.only).size;have hSs : Hid (∀ wx, Only w.heap.size (w.heap.size + 1) w3 wx → (fun w' : World => w'.cell? ⟨gL, oL + i * 3 + 2, none⟩ = some (.int .i64 t) ∧ w'.cell? ⟨gQ, oQ + j * 3 + 2, none⟩ = some (.int .i64 t2) ∧ w'.cell? ⟨bb, 0, none⟩ = some (.int .i64 (Nb : Int))) wx) := fun wx ho => by
        obtain ⟨-, ⟨kB, -⟩, -, -, sL, sQ⟩ := hAt.out ho;obtain ⟨gL2, oL2, f3, l3, t3, e3, -, -, -, hx3, -, -, b3, -⟩ := SlE.get sL hlt;cases e3;rw [hxlh.out] at hx3
        cases hx3
        obtain ⟨gQ2, oQ2, f4, l4, t4, e4, -, -, -, hx4, -, -, b4, -⟩ := SlE.get sQ hlt2;cases e4;rw [hxqh.out] at hx4
        cases hx4
        exact ⟨b3, b4, kB.c0⟩
       have hP3 := hide (hP2.out.app ⟨lk0, by omega⟩ hv3);go_upto_region 17 with fail;refine lateT_begin (S := fun w' => w'.cell? ⟨gL, oL + i * 3 + 2, none⟩ = some (.int .i64 t) ∧ w'.cell? ⟨gQ, oQ + j * 3 + 2, none⟩ = some (.int .i64 t2) ∧ w'.cell? ⟨bb, 0, none⟩ = some (.int .i64 (Nb : Int))) (st := 22) (by kernel_rfl) ?_;have hS0 := hSs.out wz.drew hOD.out.only;refine tkA _ 0 [22] rfl (Or.inl ⟨by kernel_rfl, by intro w9 hSw; obtain ⟨u0, u1, u2⟩ := hSw; go_simp <;> with_reducible rfl⟩) hS0 ?_;refine tkA _ 1 [22] rfl (Or.inl ⟨by kernel_rfl, by intro w9 hSw; obtain ⟨u0, u1, u2⟩ := hSw; go_simp <;> with_reducible rfl⟩) hS0 ?_;refine tkA _ 2 [22] rfl (Or.inl ⟨by kernel_rfl, by intro w9 hSw; obtain ⟨u0, u1, u2⟩ := hSw; go_simp <;> with_reducible rfl⟩) hS0 ?_;refine tkA _ 3 [22] rfl (Or.inl ⟨by kernel_rfl, by intro w9 hSw; obtain ⟨u0, u1, u2⟩ := hSw; go_simp <;> with_reducible rfl⟩) hS0 ?_;refine tkA _ 4 [22] rfl (Or.inl ⟨by kernel_rfl, by intro w9 hSw; obtain ⟨u0, u1, u2⟩ := hSw; go_simp <;> with_reducible rfl⟩) hS0 ?_;refine tkA _ 5 [22] rfl (Or.inl ⟨by kernel_rfl, by intro w9 hSw; obtain ⟨u0, u1, u2⟩ := hSw; go_simp <;> with_reducible rfl⟩) hS0 ?_;refine tkA _ 6 [22] rfl (Or.inl ⟨by kernel_rfl, by intro w9 hSw; obtain ⟨u0, u1, u2⟩ := hSw; go_simp <;> with_reducible rfl⟩) hS0 ?_;refine tkA _ 7 [22] rfl (Or.inl ⟨by kernel_rfl, by intro w9 hSw; obtain ⟨u0, u1, u2⟩ := hSw; go_simp <;> with_reducible rfl⟩) hS0 ?_;refine tkA _ 8 [22] rfl (Or.inl ⟨by kernel_rfl, by intro w9 hSw; obtain ⟨u0, u1, u2⟩ := hSw; go_simp <;> with_reducible rfl⟩) hS0 ?_;refine tkA _ 9 [22] rfl (Or.inl ⟨by kernel_rfl, by intro w9 hSw; obtain ⟨u0, u1, u2⟩ := hSw; go_simp <;> with_reducible rfl⟩) hS0 ?_;refine tkA _ 10 [22] rfl (Or.inl ⟨by kernel_rfl, by intro w9 hSw; obtain ⟨u0, u1, u2⟩ := hSw; go_simp <;> with_reducible rfl⟩) hS0 ?_;refine tkA _ 11 [22] rfl (Or.inl ⟨by kernel_rfl, by intro w9 hSw; obtain ⟨u0, u1, u2⟩ := hSw; go_simp <;> with_reducible rfl⟩) hS0 ?_;refine tkA _ 12 [22] rfl (Or.inl ⟨by kernel_rfl, by intro w9 hSw; obtain ⟨u0, u1, u2⟩ := hSw; go_simp <;> with_reducible rfl⟩) hS0 ?_;refine tkA _ 13 [22] rfl (Or.inl ⟨by kernel_rfl, by intro w9 hSw; obtain ⟨u0, u1, u2⟩ := hSw; go_simp <;> with_reducible rfl⟩) hS0 ?_;refine tkA _ 14 [22] rfl (Or.inl ⟨by kernel_rfl, by intro w9 hSw; obtain ⟨u0, u1, u2⟩ := hSw; go_simp <;> with_reducible rfl⟩) hS0 ?_;refine tkA _ 15 [22] rfl (Or.inl ⟨by kernel_rfl, by intro w9 hSw; obtain ⟨u0, u1, u2⟩ := hSw; go_simp <;> with_reducible rfl⟩) hS0 ?_;refine tkA _ 16 [22] rfl (Or.inl ⟨by kernel_rfl, by intro w9 hSw; obtain ⟨u0, u1, u2⟩ := hSw; go_simp <;> with_reducible rfl⟩) hS0 ?_;refine tkA _ 17 [22] rfl (Or.inl ⟨by kernel_rfl, by intro w9 hSw; obtain ⟨u0, u1, u2⟩ := hSw; go_simp <;> with_reducible rfl⟩) hS0 ?_;refine tkA _ 18 [22] rfl (Or.inl ⟨by kernel_rfl, by intro w9 hSw; obtain ⟨u0, u1, u2⟩ := hSw; go_simp <;> with_reducible rfl⟩) hS0 ?_
       refine tkA _ 19 [22] rfl (Or.inl ⟨by kernel_rfl, by intro w9 hSw; obtain ⟨u0, u1, u2⟩ := hSw; go_simp <;> with_reducible rfl⟩) hS0 ?_;refine lS 20 fun K hK => ?_
       go_simp;refine kP hK (fun _ => hSs.out _ hOa.out.only) ?_
       clear hK K;refine lS 21 fun K hK => ?_
       refine step_appL (m := 1) (d := 1) (by rfl) (.tmp 103) (.tmp 123) (by rfl) hEe.out flat_ev (by go_simp) hOa.out.own (by go_simp) hlit.out ?c1 hza ?_
       case c1 => omega
       intro A7 c7 w7 hown7 hgr7 hb7 hat7;have hO7 := hide (hOa.out.app hown7 hgr7 hat7);have hS9 := hSs.out w7 hO7.out.only;clear hown7 hgr7 hb7 hat7;refine kP hK (fun _ => hS9) ?_;clear hK K;refine lS 22 fun K hK => ?_
       go_simp;refine kP hK nH ?_
       clear hK K;refine lateT_done (by kernel_rfl) ?_ _;go_wp2_with fail;go_roundw
       case rel => exact ⟨j + 1, mP + 1, c7, A7, _, by omega, by go_num, rfl, hO7.out, hP3.out, by omega⟩
       case measure => simp [intOf]; omega
      ·have gs : (nm2.toList == nm.toList) = false := str_neq (fun e => hs2 e)
       have gs2 : ¬ nm2.toList = nm.toList := fun e => (str_list_ne3 hs2).2 e.symm
       go_quiet (fail);obtain ⟨wz, hwz⟩ : ∃ wz, wz = wZ.drewN nq := ⟨_, rfl⟩;have hbz : Below wZ.heap.size wZ wz := by rw [hwz]; exact below_drewN _ _
       rw [← hwz];replace hwz := hide hwz;have hCz := hide (hC2.out.below hbz);clear cb2 d0 d1 d2 pl2 hbz hC2;go_wp2_with fail;go_roundw
       case rel => exact ⟨j + 1, mP, cP, P, s2, by omega, by go_num, rfl, hCz.out, hP2.out, by omega⟩
       case measure => simp [intOf]; omega
     ·obtain rfl : j = nr := by omega
      have j1 : ¬ (j : Int) < (j : Int) := by omega
      clear kB sB sL sQ;go_wp2_with fail;go_roundw
      case rel => exact ⟨i + 1, mP, cP, P, s2, by omega, by go_num, rfl, hC2.out, hP2.out, by have := hmul.out; omega⟩
      case measure => simp [intOf]; omega
  ·obtain rfl : i = nl := by omega
   have i1 : ¬ (i : Int) < (i : Int) := by omega
   have hmO2 : mO ≤ m * (m' + 1) := Nat.le_trans hmO (Nat.mul_le_mul hnl (by omega));have hmm : m * (m' + 1) ≤ 301 * 301 := Nat.mul_le_mul (by omega) (by omega);clear kA sA kB sB sJ sS sL sQ;go_wp2_with fail
   go_loopw [13, 20] (fun v13 v20 wr => ∃ (j mP cP : Nat) (P : Option Addr) (s2 : List Ed), j ≤ nr ∧ v20 = .int .i64 (j : Int) ∧ v13 = .slice P mP cP ∧ Hid (OwnC 3 ev 84 w3 w.heap.size wr P mP cP s2) ∧ Hid (StepP (Na * Nb) nJ p s2) ∧ mP ≤ m * (m' + 1) + j) (fun _ v _ => nr - (intOf v).toNat)
   case atStart => exact ⟨0, mO, cO, O, s, Nat.zero_le _, rfl, rfl, hC.out, hP.out, by omega⟩
   case round =>
    obtain ⟨j, mP, cP, P, s2, hj, rfl, rfl, hC2, hP2, hmP⟩ := hrel;clear hC hP;obtain ⟨-, ⟨kB, sB⟩, -, -, -, sQ⟩ := hAt.out hC2.out.only
    by_cases hlt2 : j < nr
    ·obtain ⟨gQ, oQ, f2, l2, t2, rfl, -, -, hgQ, hxq, d0, d1, d2, -⟩ := SlE.get sQ hlt2
     have hbd2 := (ltsV_edge gg.out.ok).1 _ (out_mem (List.mem_of_getElem? hxq));dsimp only at hbd2;have hnlb := gg.out.ss.len;obtain ⟨l2, rfl⟩ : ∃ k : Nat, l2 = (k : Int) := ⟨l2.toNat, by omega⟩;obtain ⟨gB, oB, nm2, rfl, -, -, hgB, hnm2, pl2, -⟩ := SlS.get sB (show l2 < n' by omega);have hnmB := List.mem_of_getElem? hnm2;have hsz1 := hval.out (.inr hnmB);have cb2 := kB.c2;have j0 : (0 : Int) ≤ (j : Int) := by omega
     have j1 : (j : Int) < (nr : Int) := by omega
     have m0 : (0 : Int) ≤ (l2 : Int) := by omega
     have m1 : (l2 : Int) < (n' : Int) := by omega
     have hxqh := hide hxq;clear kB sB sQ hxq hnm2;obtain ⟨wZ, rfl⟩ : ∃ wZ : World, wZ = wr := ⟨_, rfl⟩;go_upto_region 21 with fail;go_quiet (fail);obtain ⟨wq, hwq⟩ : ∃ wq, wq = wZ.drewN nq := ⟨_, rfl⟩;have hbq : Below wZ.heap.size wZ wq := by rw [hwq]; exact below_drewN _ _
     rw [← hwq];replace hwq := hide hwq;have hCq := hide (hC2.out.below hbq);obtain ⟨-, -, sJ, sS, -, -⟩ := hAt.out hCq.out.only;have qs := hide (fun (s2 : ByteArray) => l11Find_calls s2 Sb nS cS sh wq _ _ sS hSn);have ql := hide (l01LabelName_calls nm2 wq hsz1);clear cb2 d0 d1 d2 pl2 hbq hC2 sJ sS;go_wp2_with fail;refine ql.out.mono ?_;rintro e wx ⟨rfl, rfl⟩;go_wp2_with fail;refine (qs.out _).mono ?_;rintro e wx ⟨sk, rfl, hsk, rfl⟩;replace hsk := hide hsk;clear ql qs
     by_cases hneg : sk < 0
     ·obtain ⟨v1, v2, hv1, hv2, hv3⟩ := hcode.out (x : Int) t2 (by omega) hbd2.2.2
      have hOD : Hid (OwnC 3 ev 84 w3 w.heap.size wq.drew P mP cP s2) := hCq.out.below bR.drew;obtain ⟨-, -, sJ, -, -, -⟩ := hAt.out hOD.out.only;have qn := hide (l11Find_calls nm2 Lb nJ cJ J wq.drew _ _ sJ hJn);have hSs : Hid (∀ wx, Only w.heap.size (w.heap.size + 1) w3 wx → (fun w' : World => w'.cell? ⟨gQ, oQ + j * 3 + 2, none⟩ = some (.int .i64 t2) ∧ w'.cell? ⟨bb, 0, none⟩ = some (.int .i64 (Nb : Int))) wx) := fun wx ho => by
       obtain ⟨-, ⟨kB, -⟩, -, -, -, sQ⟩ := hAt.out ho;obtain ⟨gQ2, oQ2, f4, l4, t4, e4, -, -, -, hx4, -, -, b4, -⟩ := SlE.get sQ hlt2;cases e4;rw [hxqh.out] at hx4
       cases hx4
       exact ⟨b4, kB.c0⟩
      clear sJ;go_upto_region 23 with fail;refine lateT_begin (S := fun w' => w'.cell? ⟨gQ, oQ + j * 3 + 2, none⟩ = some (.int .i64 t2) ∧ w'.cell? ⟨bb, 0, none⟩ = some (.int .i64 (Nb : Int))) (st := 20) (by kernel_rfl) ?_;have hS0 := hSs.out wq.drew hOD.out.only;refine tkA _ 0 [20] rfl (Or.inl ⟨by kernel_rfl, by intro w9 hSw; obtain ⟨u0, u1⟩ := hSw; go_simp <;> with_reducible rfl⟩) hS0 ?_;refine tkA _ 1 [20] rfl (Or.inl ⟨by kernel_rfl, by intro w9 hSw; obtain ⟨u0, u1⟩ := hSw; go_simp <;> with_reducible rfl⟩) hS0 ?_;refine tkA _ 2 [20] rfl (Or.inl ⟨by kernel_rfl, by intro w9 hSw; obtain ⟨u0, u1⟩ := hSw; go_simp <;> with_reducible rfl⟩) hS0 ?_;refine tkA _ 3 [20] rfl (Or.inl ⟨by kernel_rfl, by intro w9 hSw; obtain ⟨u0, u1⟩ := hSw; go_simp <;> with_reducible rfl⟩) hS0 ?_;refine tkA _ 5 [20] rfl (Or.inl ⟨by kernel_rfl, by intro w9 hSw; obtain ⟨u0, u1⟩ := hSw; go_simp <;> with_reducible rfl⟩) hS0 ?_;refine tkA _ 6 [20] rfl (Or.inl ⟨by kernel_rfl, by intro w9 hSw; obtain ⟨u0, u1⟩ := hSw; go_simp <;> with_reducible rfl⟩) hS0 ?_;refine tkA _ 7 [20] rfl (Or.inl ⟨by kernel_rfl, by intro w9 hSw; obtain ⟨u0, u1⟩ := hSw; go_simp <;> with_reducible rfl⟩) hS0 ?_;refine tkA _ 8 [20] rfl (Or.inl ⟨by kernel_rfl, by intro w9 hSw; obtain ⟨u0, u1⟩ := hSw; go_simp <;> with_reducible rfl⟩) hS0 ?_;refine tkA _ 9 [20] rfl (Or.inl ⟨by kernel_rfl, by intro w9 hSw; obtain ⟨u0, u1⟩ := hSw; go_simp <;> with_reducible rfl⟩) hS0 ?_;refine tkA _ 10 [20] rfl (Or.inl ⟨by kernel_rfl, by intro w9 hSw; obtain ⟨u0, u1⟩ := hSw; go_simp <;> with_reducible rfl⟩) hS0 ?_;refine tkA _ 11 [20] rfl (Or.inl ⟨by kernel_rfl, by intro w9 hSw; obtain ⟨u0, u1⟩ := hSw; go_simp <;> with_reducible rfl⟩) hS0 ?_;refine tkA _ 12 [20] rfl (Or.inl ⟨by kernel_rfl, by intro w9 hSw; obtain ⟨u0, u1⟩ := hSw; go_simp <;> with_reducible rfl⟩) hS0 ?_;refine tkA _ 13 [20] rfl (Or.inl ⟨by kernel_rfl, by intro w9 hSw; obtain ⟨u0, u1⟩ := hSw; go_simp <;> with_reducible rfl⟩) hS0 ?_;refine tkA _ 14 [20] rfl (Or.inl ⟨by kernel_rfl, by intro w9 hSw; obtain ⟨u0, u1⟩ := hSw; go_simp <;> with_reducible rfl⟩) hS0 ?_;refine tkA _ 15 [20] rfl (Or.inl ⟨by kernel_rfl, by intro w9 hSw; obtain ⟨u0, u1⟩ := hSw; go_simp <;> with_reducible rfl⟩) hS0 ?_;refine tkA _ 16 [20] rfl (Or.inl ⟨by kernel_rfl, by intro w9 hSw; obtain ⟨u0, u1⟩ := hSw; go_simp <;> with_reducible rfl⟩) hS0 ?_;refine lS 4 fun K hK => ?_
      go_simp;go_at_call 174
      (with_reducible refine qn.out.mono ?_)
      rintro e w6 ⟨lk, rfl, hlk, rfl⟩;obtain ⟨lk0, lk1⟩ := find_in hlk (hJbh.out nm2 hnmB);replace hlk := hide hlk;have hOa : Hid (OwnC 3 ev 84 w3 w.heap.size (wq.drew.alloc (.cells #[.int .i64 p, .int .i64 lk, .int .i64 v2] 84)) P mP cP s2) := hOD.out.below (bR.alloc zR _);have hlit := hide (Sl.lit1' (f := ev) wq.drew 84 (p, lk, v2) #[.int .i64 p, .int .i64 lk, .int .i64 v2] rfl 3 _ rfl);have hza : w.heap.size ≤ (wq.drew.alloc (.cells #[.int .i64 p, .int .i64 lk, .int .i64 v2] 84)).heap.size := (hBel.out hOa.out.only).size;have hP3 := hide (hP2.out.app ⟨lk0, by omega⟩ hv3)
      (try go_wp2_with fail)
      refine kP hK (fun _ => hS0) ?_;clear hK K;refine lS 17 fun K hK => ?_
      go_simp;refine kP hK (fun _ => hS0) ?_
      clear hK K;refine lS 18 fun K hK => ?_
      go_simp;refine kP hK (fun _ => hSs.out _ hOa.out.only) ?_
      clear hK K;refine lS 19 fun K hK => ?_
      refine step_appL (m := 1) (d := 1) (by rfl) (.tmp 147) (.tmp 165) (by rfl) hEe.out flat_ev (by go_simp) hOa.out.own (by go_simp) hlit.out ?c1 hza ?_
      case c1 => omega
      intro A7 c7 w7 hown7 hgr7 hb7 hat7;have hO7 := hide (hOa.out.app hown7 hgr7 hat7);have hS9 := hSs.out w7 hO7.out.only;clear hown7 hgr7 hb7 hat7;refine kP hK (fun _ => hS9) ?_;clear hK K;refine lS 20 fun K hK => ?_
      go_simp;refine kP hK nH ?_
      clear hK K;refine lateT_done (by kernel_rfl) ?_ _;go_wp2_with fail;go_roundw
      case rel => exact ⟨j + 1, mP + 1, c7, A7, _, by omega, by go_num, rfl, hO7.out, hP3.out, by omega⟩
      case measure => simp [intOf]; omega
     ·go_wp2_with fail
      go_roundw
      case rel => exact ⟨j + 1, mP, cP, P, s2, by omega, by go_num, rfl, hCq.out, hP2.out, by omega⟩
      case measure => simp [intOf]; omega
    ·obtain rfl : j = nr := by omega
     have j1 : ¬ (j : Int) < (j : Int) := by omega
     have hslF := hide (hC2.out.own.sl flat_ev);have hbF := hide (hBel.out hC2.out.only);clear kB sB sQ;go_wp2_with fail;go_ret;exact ⟨P, mP, ⟨cP, rfl⟩, s2, hslF.out, hP2.out, by omega, hbF.out⟩
end
end Go.Proofs.YtnhomkmfbngmgaaGreatDoor
namespace Go.Proofs.YtnhomkmfbngmgaaGreatDoor
open Go.ChangeShapes Go.WideShapes Go.ChangeAt Go.RowKit
section
variable {α : Type} {size : Nat} {f : α → List Value} {w w' : World} {base n c : Nat} {e : TypeId} {A : Option Addr} {l : List α}
theorem Own.typedP (h : Own size f w base e A n c l) {g : Nat} (hg : (Value.slice A n c).ownBlock = some g) : g < w.heap.size ∧ ∃ cur, w.heap[g]? = some (.cells cur e (0, 0)) := by
 refine ⟨(h.lt g hg).2, ?_⟩
 rcases h.2.2 with ⟨hv, _⟩ | ⟨b, cap, cur, hv, _, hb, _⟩
 ·rw [hv] at hg; cases hg
 ·rw [hv] at hg
  obtain rfl : b = g := by injection hg
  exact ⟨cur, hb⟩
theorem Own.byTypeP {β : Type} {sz : Nat} {g : β → List Value} {b2 m d : Nat} {e2 : TypeId} {B : Option Addr} {l2 : List β} (h : Own size f w base e A n c l) (o : Own sz g w b2 e2 B m d l2) (hg : w.grownBy w' (Value.slice B m d).ownBlock) (ht : e ≠ e2) : Own size f w' base e A n c l :=
 h.keep fun q hq => by
  obtain ⟨h2, cur, h3⟩ := h.typedP hq;refine hg.block q h2 fun e1 => ?_
  obtain ⟨-, cu, h1⟩ := o.typedP e1.symm;rw [h3] at h1;injection h1 with h1;injection h1 with _ h1;exact ht h1
end
structure PEW (w0 wr : World) (Q : Option Addr) (nQ cQ : Nat) (ps : List Int) (E : Option Addr) (nE cE : Nat) (es : List Ed) : Prop where
 p : Own 1 iv wr w0.heap.size 2 Q nQ cQ ps
 e : Own 3 ev wr w0.heap.size 84 E nE cE es
 bel : Below w0.heap.size w0 wr
section
variable {w0 wr w' : World} {Q : Option Addr} {nQ cQ : Nat} {ps : List Int} {E : Option Addr} {nE cE : Nat} {es : List Ed}
theorem PEW.below (h : PEW w0 wr Q nQ cQ ps E nE cE es) (hb : Below wr.heap.size wr w') : PEW w0 w' Q nQ cQ ps E nE cE es :=
 ⟨h.p.below hb zR, h.e.below hb zR, h.bel.trans (hb.mono h.bel.size)⟩
theorem PEW.pushP (h : PEW w0 wr Q nQ cQ ps E nE cE es) {Q7 : Option Addr} {n7 c7 : Nat} {ps7 : List Int} (hg : wr.grownBy w' (Value.slice Q nQ cQ).ownBlock) (ho : Own 1 iv w' w0.heap.size 2 Q7 n7 c7 ps7) (hb : Below w0.heap.size wr w') : PEW w0 w' Q7 n7 c7 ps7 E nE cE es :=
 ⟨ho, h.e.byTypeP h.p hg (by decide), h.bel.trans hb⟩
theorem PEW.pushE (h : PEW w0 wr Q nQ cQ ps E nE cE es) {E7 : Option Addr} {n7 c7 : Nat} {es7 : List Ed} (hg : wr.grownBy w' (Value.slice E nE cE).ownBlock) (ho : Own 3 ev w' w0.heap.size 84 E7 n7 c7 es7) (hb : Below w0.heap.size wr w') : PEW w0 w' Q nQ cQ ps E7 n7 c7 es7 :=
 ⟨h.p.byTypeP h.e hg (by decide), ho, h.bel.trans hb⟩
end
structure PES (w0 wr : World) (lo hi : Nat) (Q : Option Addr) (nQ cQ : Nat) (ps : List Int) (E : Option Addr) (nE cE : Nat) (es : List Ed) (T : Option Addr) (nT : Nat) (st : List Ed) : Prop where
 w : PEW w0 wr Q nQ cQ ps E nE cE es
 st : SlE wr lo hi T nT st
 sp : ∀ g, (Value.slice Q nQ cQ).ownBlock = some g → g < lo ∨ hi ≤ g
 se : ∀ g, (Value.slice E nE cE).ownBlock = some g → g < lo ∨ hi ≤ g
 hl : hi ≤ wr.heap.size
section
variable {w0 wr w' : World} {lo hi : Nat} {Q : Option Addr} {nQ cQ : Nat} {ps : List Int} {E : Option Addr} {nE cE : Nat} {es : List Ed} {T : Option Addr} {nT : Nat} {st : List Ed}
theorem PES.below (h : PES w0 wr lo hi Q nQ cQ ps E nE cE es T nT st) (hb : Below wr.heap.size wr w') : PES w0 w' lo hi Q nQ cQ ps E nE cE es T nT st :=
 ⟨h.w.below hb, h.st.below hb (.inl h.hl), h.sp, h.se, Nat.le_trans h.hl hb.size⟩
theorem PES.pushP (h : PES w0 wr lo hi Q nQ cQ ps E nE cE es T nT st) {Q7 : Option Addr} {n7 c7 : Nat} {ps7 : List Int} (hg : wr.grownBy w' (Value.slice Q nQ cQ).ownBlock) (ho : Own 1 iv w' w0.heap.size 2 Q7 n7 c7 ps7) (hb : Below w0.heap.size wr w')
  (hat : (Value.slice Q7 n7 c7).ownBlock = (Value.slice Q nQ cQ).ownBlock ∨ (Value.slice Q7 n7 c7).ownBlock = some wr.heap.size) : PES w0 w' lo hi Q7 n7 c7 ps7 E nE cE es T nT st := by
 refine ⟨h.w.pushP hg ho hb, h.st.keep hg.size fun b h1 h2 h3 => hg.block b h3 fun e => ?_, fun g hgq => ?_, h.se, Nat.le_trans h.hl hg.size⟩
 ·rcases h.sp b e.symm with g | g <;> omega
 ·rcases hat with hat | hat
  ·exact h.sp g (by rw [← hat]; exact hgq)
  ·rw [hat] at hgq
   have := h.hl;injection hgq with e;omega
theorem PES.pushE (h : PES w0 wr lo hi Q nQ cQ ps E nE cE es T nT st) {E7 : Option Addr} {n7 c7 : Nat} {es7 : List Ed} (hg : wr.grownBy w' (Value.slice E nE cE).ownBlock) (ho : Own 3 ev w' w0.heap.size 84 E7 n7 c7 es7) (hb : Below w0.heap.size wr w')
  (hat : (Value.slice E7 n7 c7).ownBlock = (Value.slice E nE cE).ownBlock ∨ ∃ g, (Value.slice E7 n7 c7).ownBlock = some g ∧ wr.heap.size ≤ g) : PES w0 w' lo hi Q nQ cQ ps E7 n7 c7 es7 T nT st := by
 refine ⟨h.w.pushE hg ho hb, h.st.keep hg.size fun b h1 h2 h3 => hg.block b h3 fun e => ?_, h.sp, fun g hgq => ?_, Nat.le_trans h.hl hg.size⟩
 ·rcases h.se b e.symm with g | g <;> omega
 ·rcases hat with hat | ⟨g', hat, hg'⟩
  ·exact h.se g (by rw [← hat]; exact hgq)
  ·rw [hat] at hgq
   have := h.hl;injection hgq with e;omega
end
theorem l11Place_calls (v : Int) (A : Option Addr) (n c : Nat) (l : List Int) (w : World) (lo hi : Nat) (h : SlI w lo hi A n l) (hn : n ≤ 1048576) :
  Calls Tryz.prog 87 #[.slice A n c, .int .i64 v] w fun e w' => ∃ i : Int, e = .returned (.int .i64 i) ∧ FstI l v i ∧ w = w' := by
 have hlen := hide h.len;go_enter Tryz.func87, Tryz.ntmps87;go_wp2_with fail
 go_loop [5] (fun i => ∃ k : Nat, k ≤ n ∧ i = .int .i64 k ∧ Hid (∀ x, x ∈ l.take k → x ≠ v)) (fun i => n - (intOf i).toNat)
 case atStart => exact ⟨0, Nat.zero_le _, rfl, fun x hx => by simp at hx⟩
 case round =>
  obtain ⟨k, hk, rfl, ha⟩ := hrel
  by_cases hlt : k < n
  ·obtain ⟨b, off, x, rfl, g1, g2, g3, hx, c0, -⟩ := SlI.get h hlt
   clear h;have k0 : (0 : Int) ≤ (k : Int) := by omega
   have k1 : (k : Int) < (n : Int) := by omega
   by_cases hq : x = v
   ·subst hq
    have hy : Hid (FstI l x (k : Int)) := .inr ⟨k, rfl, by rw [hlen.out]; exact hlt, hx⟩;have g9 : (x == x) = true := by simp
    clear hx;go_wp2_with fail;go_ret;exact ⟨_, rfl, hy.out, rfl⟩
   ·have hy : Hid (∀ x, x ∈ l.take (k + 1) → x ≠ v) := fun y hy => by
     rw [List.take_add_one, hx] at hy
     rcases List.mem_append.1 hy with hy | hy
     ·exact ha.out y hy
     ·have : y = x := by simpa using hy
      rw [this]; exact hq
    have g9 : (x == v) = false := beq_eq_false_iff_ne.2 hq;clear hx hq;go_wp2_with fail
    go_round
    case rel => exact ⟨k + 1, by omega, by go_num, hy⟩
    case measure => simp [intOf]; omega
  ·have hkn : k = n := by omega
   subst hkn;clear h;have hy := ha.out;rw [List.take_of_length_le (by rw [hlen.out]; exact zR)] at hy;have hf : Hid (FstI l v (-1)) := .inl ⟨rfl, fun hm => hy v hm rfl⟩;clear ha hy;go_wp2_with fail;go_ret;exact ⟨_, rfl, hf.out, rfl⟩
open Go.Sort
def PrdA (w : World) (la lb : List ByteArray) (S M : Nat) (e : Ending) (w' : World) : Prop :=
 (e = .returned (.tuple #[.agg #[.int .i64 0, .int .i64 0, .slice none 0 0, .slice none 0 0], .bool false]) ∧ Below w.heap.size w w') ∨
 ∃ (st ini : Nat) (A2 : Option Addr) (n2 c2 : Nat) (B2 : Option Addr) (m2 d2 : Nat) (es : List Ed), e = .returned (.tuple #[.agg #[.int .i64 (st : Int), .int .i64 (ini : Int), .slice A2 n2 c2, .slice B2 m2 d2], .bool true]) ∧
  SlS w' w.heap.size w'.heap.size A2 n2 (joiF (la ++ lb)) ∧ SlE w' w.heap.size w'.heap.size B2 m2 es ∧ ltsV ((st : Int), (ini : Int), joiF (la ++ lb), es) = true ∧ st ≤ S ∧ es.length ≤ M ∧ Below w.heap.size w w'
theorem joi_len2 (ts : List ByteArray) : (joiF ts).length ≤ ts.length + 1 := by
 unfold joiF;rw [List.length_map];refine Nat.le_trans (Go.Lib.compact_length_le _) ?_;rw [List.length_mergeSort, List.length_map, List.length_cons];exact zR
structure OutV (wF wr : World) (g : Nat) (st ini : Int) (A1 : Option Addr) (n1 c1 : Nat) (D : Option Addr) (k cD : Nat) (out : List Ed) : Prop where
 box : LtsBox wr g st ini A1 n1 c1 D k cD
 own : Own 3 ev wr wF.heap.size 84 D k cD out
 ne : ∀ q, (Value.slice D k cD).ownBlock = some q → q ≠ g
 hg : wF.heap.size < g
 bel : Below wF.heap.size wF wr
section
variable {wF wr wx w7 : World} {g : Nat} {st ini : Int} {A1 : Option Addr} {n1 c1 : Nat} {D : Option Addr} {k cD : Nat} {out : List Ed}
theorem OutV.below (h : OutV wF wr g st ini A1 n1 c1 D k cD out) (hb : Below wr.heap.size wr wx) : OutV wF wx g st ini A1 n1 c1 D k cD out :=
 ⟨h.box.below hb h.box.lt, h.own.below hb zR, h.ne, h.hg, h.bel.trans (hb.mono h.bel.size)⟩
theorem OutV.mid (h : OutV wF wr g st ini A1 n1 c1 D k cD out) (hg : wr.grownBy w7 (Value.slice D k cD).ownBlock) : LtsBox w7 g st ini A1 n1 c1 D k cD :=
 (hg.block g h.box.lt fun e => h.ne g e.symm rfl).trans h.box
theorem OutV.next (h : OutV wF wr g st ini A1 n1 c1 D k cD out) {D' : Option Addr} {k' cD' : Nat} {out' : List Ed} (hg : wr.grownBy w7 (Value.slice D k cD).ownBlock) (hb : Below wF.heap.size wr w7) (ho : Own 3 ev w7 wF.heap.size 84 D' k' cD' out')
  (hat : (Value.slice D' k' cD').ownBlock = (Value.slice D k cD).ownBlock ∨ (Value.slice D' k' cD').ownBlock = some wr.heap.size) : OutV wF (w7.setCell ⟨g, 3, none⟩ (.slice D' k' cD')) g st ini A1 n1 c1 D' k' cD' out' := by
 have hne : ∀ q, (Value.slice D' k' cD').ownBlock = some q → q ≠ g := fun q hq => by
  rcases hat with hat | hat
  ·exact h.ne q (by rw [← hat]; exact hq)
  ·rw [hat] at hq
   have := h.box.lt;injection hq with e;omega
 refine ⟨heap_setCell_same _ _ 3 _ _ _ (h.mid hg), ho.keep fun b hb' => Below.heap_setCell _ _ _ _ (hne b hb'), hne, h.hg, (h.bel.trans hb).setCell (by show wF.heap.size ≤ g; exact Nat.le_of_lt h.hg) _⟩
end
section
variable {w : World} {Na ia : Nat} {A : Option Addr} {n : Nat} {B : Option Addr} {m : Nat} {la : List ByteArray} {ea : List Ed} {Nb ib : Nat} {A' : Option Addr} {n' : Nat} {B' : Option Addr} {m' : Nat} {lb : List ByteArray} {eb : List Ed}
theorem l11Product_calls (h : SysA w Na ia A n B m la ea) (g : SysA w Nb ib A' n' B' m' lb eb) (c d c' d' ba bb : Nat) (ka : LtsBox w ba (Na : Int) (ia : Int) A n c B m d) (kb : LtsBox w bb (Nb : Int) (ib : Int) A' n' c' B' m' d')
  (sh : List ByteArray) (Sb : Option Addr) (nS cS : Nat) (hSh : SlS w 0 w.heap.size Sb nS sh) (hSn : nS ≤ 1048576) (hnam : ∀ x, x ∈ la ++ lb → x = tauB ∨ labS x = true) (K1 : Nat) (hK1 : m * (m' + 1) + m' = K1) (hBK : Na * Nb ≤ 40) (hMK : Na * Nb * K1 ≤ 300) :
  Calls Tryz.prog 189 #[.pointer (some ⟨ba, 0, none⟩), .pointer (some ⟨bb, 0, none⟩), .slice Sb nS cS] w (PrdA w la lb (Na * Nb) (Na * Nb * K1)) := by
 have hEi := hide elem_int;have hEe := hide elem_edge;have hEs := hide elem_str;have hma := h.many;have hmb := g.many;obtain ⟨⟨hNa1, hNa2⟩, hia⟩ := h.bounds;obtain ⟨⟨hNb1, hNb2⟩, hib⟩ := g.bounds;obtain ⟨Bn, hBn⟩ : ∃ Bn, Bn = Na * Nb := ⟨_, rfl⟩;obtain ⟨w1, hw1⟩ : ∃ w1, w1 = w.alloc (.cells #[.int .i64 0, .int .i64 0, .slice none 0 0, .slice none 0 0] 27) := ⟨_, rfl⟩;have hb01 : Below w.heap.size w w1 := by rw [hw1]; exact bR.alloc zR _
 have kR1 : LtsBox w1 w.heap.size 0 0 none 0 0 none 0 0 := by rw [hw1]; exact heap_alloc_new w _
 have z1 : w1.heap.size = w.heap.size + 1 := by rw [hw1]; exact World.size_alloc _ _
 obtain ⟨z1a, z1b⟩ : w1.heap.size ≤ w.heap.size + 1 ∧ w.heap.size + 1 ≤ w1.heap.size := ⟨by omega, by omega⟩;have hb1D : Below w1.heap.size w1 w1.drew := bR.drew;have hFr : Hid (∀ {wx : World}, Below w1.heap.size w1 wx → SysA wx Na ia A n B m la ea ∧ SysA wx Nb ib A' n' B' m' lb eb ∧ LtsBox wx ba (Na : Int) (ia : Int) A n c B m d ∧ LtsBox wx bb (Nb : Int) (ib : Int) A' n' c' B' m' d' ∧ SlS wx 0 w.heap.size Sb nS sh ∧ LtsBox wx w.heap.size 0 0 none 0 0 none 0 0 ∧ Below w.heap.size w wx) := fun {wx} hb => by
  have hbw := hb01.trans (hb.mono (by omega));exact ⟨h.below hbw zR, g.below hbw zR, ka.below hbw ka.lt, kb.below hbw kb.lt, hSh.below hbw (.inl zR), kR1.below hb (by omega), hbw⟩
 have hAt : Hid (∀ {wx : World}, Below w1.drew.heap.size w1.drew wx → SlS wx 0 wx.heap.size A n la ∧ SlS wx 0 wx.heap.size A' n' lb) := fun {wx} hb => by
  obtain ⟨y1, y2, -⟩ := hFr.out (hb1D.trans hb);exact ⟨y1.ss, y2.ss⟩
 have hSs : Hid (∀ wx, Below w1.drew.heap.size w1.drew wx → (fun w' : World => w'.cell? ⟨ba, 2, none⟩ = some (.slice A n c) ∧ w'.cell? ⟨bb, 2, none⟩ = some (.slice A' n' c')) wx) := fun wx hb => by
  obtain ⟨-, -, y1, y2, -⟩ := hFr.out (hb1D.trans hb);exact ⟨y1.c2, y2.c2⟩
 have hbA : Hid (Below w1.drew.heap.size w1.drew (w1.drew.alloc (.cells #[] 9))) := bR.alloc zR _;have hO0 : Hid (Own 1 strv (w1.drew.alloc (.cells #[] 9)) w1.drew.heap.size 9 (some ⟨w1.drew.heap.size, 0, none⟩) 0 0 []) := Own.made _ _ zR;have hza : w1.drew.heap.size ≤ (w1.drew.alloc (.cells #[] 9)).heap.size := hbA.out.size;have hb1Dh := hide hb1D;have hlla := h.ss.len;have hllb := g.ss.len;have hpf := pair_lt (na := Na) (nb := Nb) (x := (ia : Int)) (y := (ib : Int)) (by omega) (by omega);have hpf0 := pair_lt (na := Na) (nb := Nb) (x := (ia : Int)) (y := 0) (by omega) (by omega);rw [← hBn] at hpf hpf0 hBK hMK;obtain ⟨fi0, hfi0⟩ : ∃ fi0 : Int, fi0 = (ia : Int) * (Nb : Int) := ⟨_, rfl⟩;rw [← hfi0] at hpf hpf0;obtain ⟨fi, hfi⟩ : ∃ fi : Int, fi = fi0 + (ib : Int) := ⟨_, rfl⟩;rw [← hfi] at hpf;have hwr1 : IntKind.i64.wrap ((ia : Int) * (Nb : Int)) = fi0 := by rw [hfi0]; exact IntWalk.i64_in _ (by rw [← hfi0]; omega)
 have hwr2 : IntKind.i64.wrap (fi0 + (ib : Int)) = fi := by rw [hfi]; exact IntWalk.i64_in _ (by omega)
 replace hfi0 := hide hfi0;replace hfi := hide hfi;have hnamh := hide hnam;have hK1h := hide hK1;have hMKh := hide hMK;have hBnh := hide hBn;clear h g ka kb hSh hb01 kR1 z1 hb1D hnam hK1 hMK hBn;go_enter Tryz.func189, Tryz.ntmps189;go_upto_region 1 with fail;rw [show w.alloc (.cells #[.int .i64 0, .int .i64 0, .slice none 0 0, .slice none 0 0] 27) = w1 from hw1.symm];replace hw1 := hide hw1;refine lateT_begin (S := fun w' => w'.cell? ⟨ba, 2, none⟩ = some (.slice A n c) ∧ w'.cell? ⟨bb, 2, none⟩ = some (.slice A' n' c')) (st := 12) (by kernel_rfl) ?_;have hS0 := hSs.out w1.drew bR;refine tkA _ 1 [12] rfl (Or.inl ⟨by kernel_rfl, by intro w9 hSw; obtain ⟨u0, u1⟩ := hSw; go_simp <;> with_reducible rfl⟩) hS0 ?_;refine tkA _ 2 [12] rfl (Or.inl ⟨by kernel_rfl, by intro w9 hSw; obtain ⟨u0, u1⟩ := hSw; go_simp <;> with_reducible rfl⟩) hS0 ?_;refine tkA _ 3 [12] rfl (Or.inl ⟨by kernel_rfl, by intro w9 hSw; obtain ⟨u0, u1⟩ := hSw; go_simp <;> with_reducible rfl⟩) hS0 ?_;refine tkA _ 4 [12] rfl (Or.inl ⟨by kernel_rfl, by intro w9 hSw; obtain ⟨u0, u1⟩ := hSw; go_simp <;> with_reducible rfl⟩) hS0 ?_;refine tkA _ 6 [12] rfl (Or.inl ⟨by kernel_rfl, by intro w9 hSw; obtain ⟨u0, u1⟩ := hSw; go_simp <;> with_reducible rfl⟩) hS0 ?_;refine tkA _ 7 [12] rfl (Or.inl ⟨by kernel_rfl, by intro w9 hSw; obtain ⟨u0, u1⟩ := hSw; go_simp <;> with_reducible rfl⟩) hS0 ?_;refine tkA _ 8 [12] rfl (Or.inl ⟨by kernel_rfl, by intro w9 hSw; obtain ⟨u0, u1⟩ := hSw; go_simp <;> with_reducible rfl⟩) hS0 ?_;refine tkA _ 9 [12] rfl (Or.inl ⟨by kernel_rfl, by intro w9 hSw; obtain ⟨u0, u1⟩ := hSw; go_simp <;> with_reducible rfl⟩) hS0 ?_;refine lS 0 fun K hK => ?_
 go_simp;refine kP hK (fun _ => hSs.out _ hbA.out) ?_
 clear hK K;refine lS 5 fun K hK => ?_
 refine step_appL (m := n) (d := c) (by rfl) (.tmp 20) (.tmp 24) (by rfl) hEs.out flat_strv (by go_simp) hO0.out (by go_simp) (hAt.out hbA.out).1 ?c1 hza ?_
 case c1 => omega
 intro A5 c5 w5 hown5 hgr5 hb5 _;have hb15 := hide (hbA.out.trans hb5);have hS5 := hSs.out w5 hb15.out;have hza5 : w1.drew.heap.size ≤ w5.heap.size := hb15.out.size;rw [Nat.zero_add, List.nil_append] at hown5;replace hown5 := hide hown5;clear hgr5 hb5;refine kP hK (fun _ => hS5) ?_;clear hK K;refine lS 10 fun K hK => ?_
 refine step_appL (m := n') (d := c') (by rfl) (.tmp 25) (.tmp 29) (by rfl) hEs.out flat_strv (by go_simp) hown5.out (by go_simp) (hAt.out hb15.out).2 ?c1 hza5 ?_
 case c1 => omega
 intro A6 c6 w6 hown6 hgr6 hb6 _;have hb16 := hide (hb15.out.trans hb6);have hS6 := hSs.out w6 hb16.out;have qJ := hide (l11Join_calls A6 (n + n') c6 (la ++ lb) w6 _ _ (hown6.sl flat_strv) zR (by omega));clear hown5 hown6 hgr6 hb6;refine kP hK (fun _ => hS6) ?_;clear hK K;refine lS 11 fun K hK => ?_
 go_simp;go_at_call 146
 (with_reducible refine qJ.out.mono ?_)
 rintro e w7 ⟨A7, nJ, c7, rfl, hJo, hb7⟩;have hb17 := hide (hb16.out.trans (hb7.mono hb16.out.size));have hS7 := hSs.out w7 hb17.out;have hz67 := hb16.out.size;have hJo7 := hide hJo;clear qJ hb7 hJo
 (try go_wp2_with fail)
 refine kP hK (fun _ => hS7) ?_;clear hK K;refine lS 12 fun K hK => ?_
 go_simp;refine kP hK nH ?_
 clear hK K;refine lateT_done (by kernel_rfl) ?_ _;clear hSs hAt hO0 hza;have hb7 := hide (hb1Dh.out.trans hb17.out);have hJn : (joiF (la ++ lb)).length = nJ := hJo7.out.len;have hz17 := hb17.out.size;have hJs := hide ((hJo7.out.sl flat_strv).here')
 by_cases hbig : nJ ≤ 12
 case neg =>
  have g1 : (nJ : Int) > 12 := by omega
  obtain ⟨-, -, -, -, -, kR, hbw⟩ := hFr.out hb7.out;have r0 := kR.c0;have r1 := kR.c1;have r2 := kR.c2;have r3 := kR.c3;have v0 := kR.f0;have v1 := kR.f1;have v2 := kR.f2;have v3 := kR.f3;have hbwh := hide hbw;clear kR hbw;go_wp2_with fail
  (try simp only [Exit.inBlock, Exit.then])
  refine bodyPost_ret_by (v := .tuple #[.agg #[.int .i64 0, .int .i64 0, .slice none 0 0, .slice none 0 0], .bool false]) ?_ rfl ?_
  focus
   rw [results_cs rfl];go_simp
  exact .inl ⟨rfl, (((hbwh.out.setCell zR _).setCell zR _).setCell zR _).setCell zR _⟩
 have g1 : ¬ (nJ : Int) > 12 := by omega
 obtain ⟨-, -, kA, kB, -, -, -⟩ := hFr.out hb7.out;have ca1 := kA.c1;have cb0 := kB.c0;have cb1 := kB.c1;clear kA kB;go_upto_region 4 with fail;go_quiet (fail);obtain ⟨w0, hw0⟩ : ∃ w0, w0 = w7.drewN nq := ⟨_, rfl⟩;have hb70 : Below w7.heap.size w7 w0 := by rw [hw0]; exact below_drewN _ _
 rw [← hw0];replace hw0 := hide hw0;have hz70 := hb70.size;have hb10 := hide (hb7.out.trans (hb70.mono hb7.out.size));have hJ0 := hide ((hJs.out.below hb70 (.inl zR)));have hJ1 := hide (((hJo7.out.sl flat_strv).below hb70 (.inl zR)));clear ca1 cb0 cb1 hJs hb70
 -- the pairs and the edges
 obtain ⟨w8, hw8⟩ : ∃ w8, w8 = (w0.alloc (.cells #[.int .i64 fi] 2)).alloc (.cells #[] 84) := ⟨_, rfl⟩;have zA : (w0.alloc (.cells #[.int .i64 fi] 2)).heap.size = w0.heap.size + 1 := World.size_alloc _ _;have hP0 : Hid (PEW w0 w8 (some ⟨w0.heap.size, 0, none⟩) 1 1 [fi] (some ⟨w0.heap.size + 1, 0, none⟩) 0 0 []) := by
  have hbL : Below w0.heap.size w0 (w0.alloc (.cells #[.int .i64 fi] 2)) := bR.alloc zR _;have h1 : Own 1 iv (w0.alloc (.cells #[.int .i64 fi] 2)) w0.heap.size 2 (some ⟨w0.heap.size, 0, none⟩) 1 1 [fi] := Own.litL (heap_alloc_new w0 _) rfl zR;have h2 : Own 3 ev w8 w0.heap.size 84 (some ⟨w0.heap.size + 1, 0, none⟩) 0 0 [] := by rw [hw8, ← zA]; exact Own.made _ _ (by omega)
  refine ⟨?_, h2, ?_⟩
  ·rw [hw8]; exact h1.alloc _
  ·rw [hw8]; exact hbL.alloc (by omega) _
 go_upto_region 7 with fail;rw [show (w0.alloc (.cells #[.int .i64 fi] 2)).alloc (.cells #[] 84) = w8 from hw8.symm];replace hw8 := hide hw8;replace zA := hide zA;go_wp2_with fail
 go_loopw [10, 11, 12] (fun v10 v11 v12 wr => ∃ (k nQ cQ nE cE : Nat) (Q E : Option Addr) (ps : List Int) (es : List Ed), k ≤ nQ ∧ v12 = .int .i64 (k : Int) ∧ v10 = .slice Q nQ cQ ∧ v11 = .slice E nE cE ∧ Hid (PEW w0 wr Q nQ cQ ps E nE cE es) ∧ Hid (PrI Bn nJ ps es (k * K1)) ∧ Hid (fi ∈ ps)) (fun _ _ v _ => Bn - (intOf v).toNat)
 case atStart => exact ⟨0, 1, 1, 0, 0, _, _, [fi], [], Nat.zero_le _, rfl, rfl, rfl, hP0.out, (PrI.begin hpf).more (Nat.zero_le _), List.mem_singleton_self _⟩
 case round =>
  clear hP0;obtain ⟨k, nQ, cQ, nE, cE, Q, E, ps, es, hk, rfl, rfl, rfl, hW, hI, hfm⟩ := hrel;have hlQ := hW.out.p.len;have hlE := hW.out.e.len;have hsz := hI.out.size;have hfw := hI.out.few
  by_cases hlt : k < nQ
  ·have hmul : (k + 1) * K1 = k * K1 + K1 := Nat.succ_mul k K1
   have hkB : (k + 1) * K1 ≤ 300 := Nat.le_trans (Nat.mul_le_mul_right K1 (show k + 1 ≤ Bn by omega)) hMKh.out;have hbW := hb10.out.trans (hW.out.bel.mono hb10.out.size);obtain ⟨y1, y2, y3, y4, y5, -, -⟩ := hFr.out hbW;obtain ⟨gQ, oQ, p, eQ, -, -, hgQ, hxp, p0, -⟩ := SlI.get (hW.out.p.sl flat_iv) hlt;have hpm := List.mem_of_getElem? hxp;have qS := hide (l11Steps_calls y1 y2 c d c' d' ba bb y3 y4 (joiF (la ++ lb)) A7 nJ c7 ((hJ0.out.below hW.out.bel (.inr zR)).here') (by omega) sh Sb nS cS y5.here' hSn (fun s hs => (joi_mem_iff _ _).2 (.inr (List.mem_append_left _ hs))) (fun s hs => (joi_mem_iff _ _).2 (.inr (List.mem_append_right _ hs))) p (by rw [← hBnh.out]; exact hI.out.rng p hpm));rw [hK1h.out, ← hBnh.out] at qS;have k0 : (0 : Int) ≤ (k : Int) := by omega
   have k1 : (k : Int) < (nQ : Int) := by omega
   have hzr := hW.out.bel.size;have hkK : k * K1 + K1 ≤ 300 := by omega
   replace hmul := hide hmul;have hpmh := hide hpm;subst eQ;clear y1 y2 y3 y4 y5 hxp hpm hbW;obtain ⟨wK, rfl⟩ : ∃ wK : World, wK = wr := ⟨_, rfl⟩;go_upto_region 10 with fail;go_wp2_with fail;refine qS.out.mono ?_;rintro e w5 ⟨T, nT, cT, st, rfl, hst, hSt, hnT, hb5⟩;have hz5 := hb5.size;have hPS : Hid (PES w0 w5 wK.heap.size w5.heap.size (some ⟨gQ, oQ, none⟩) nQ cQ ps E nE cE es T nT st) :=
    ⟨hW.out.below hb5, hst, fun g e => .inl (hW.out.p.lt g e).2, fun g e => .inl (hW.out.e.lt g e).2, zR⟩
   have hStl := hst.len;have hSth := hide hSt;clear qS hst hSt hb5 hW p0;go_wp2_with fail
   go_loopw [10, 11, 14] (fun v10 v11 v14 wr => ∃ (i nQ2 cQ2 nE2 cE2 : Nat) (Q2 E2 : Option Addr) (ps2 : List Int) (es2 : List Ed), i ≤ nT ∧ v14 = .int .i64 (i : Int) ∧ v10 = .slice Q2 nQ2 cQ2 ∧ v11 = .slice E2 nE2 cE2 ∧ k + 1 ≤ nQ2 ∧ Hid (PES w0 wr wK.heap.size w5.heap.size Q2 nQ2 cQ2 ps2 E2 nE2 cE2 es2 T nT st) ∧ Hid (PrI Bn nJ ps2 es2 (k * K1 + i)) ∧ Hid (fi ∈ ps2) ∧ Hid (p ∈ ps2)) (fun _ _ v _ => nT - (intOf v).toNat)
   case atStart => exact ⟨0, nQ, cQ, nE, cE, _, E, ps, es, Nat.zero_le _, rfl, rfl, rfl, by omega, hPS.out, hI.out, hfm.out, hpmh.out⟩
   case round =>
    clear hPS hI hfm hpmh;obtain ⟨i, nQ2, cQ2, nE2, cE2, Q2, E2, ps2, es2, hi, rfl, rfl, rfl, hkQ, hPS, hI, hfm, hpm⟩ := hrel;have hlQ2 := hPS.out.w.p.len;have hlE2 := hPS.out.w.e.len;have hsz2 := hI.out.size;have hfw2 := hI.out.few
    by_cases hlt2 : i < nT
    ·obtain ⟨gT, oT, f, l, t, rfl, -, -, hgT, hxt, a0, a1, a2, -⟩ := SlE.get hPS.out.st hlt2
     obtain ⟨hf1, hl1, ht1⟩ := hSth.out _ (List.mem_of_getElem? hxt);dsimp only at hf1 hl1 ht1;subst f;have i0 : (0 : Int) ≤ (i : Int) := by omega
     have i1 : (i : Int) < (nT : Int) := by omega
     have hzr2 := hPS.out.w.bel.size;have qP := hide (l11Put_calls E2 nE2 cE2 es2 p l t wr w0.heap.size hPS.out.w.e hI.out.rise (by omega) hzr2);have hPSt := hide hPS.out.st;go_upto_region 14 with fail;go_wp2_with fail;refine qP.out.mono ?_;rintro e w6 ⟨E3, nE3, cE3, es3, rfl, hO3, hPut, hb6, hg6, hat6⟩;have hPS6 := hide (hPS.out.pushE hg6 hO3 hb6 hat6);have hPut6 := hide hPut;clear qP hPS hO3 hPut hb6 hg6 hat6 a0 a1 a2 hPSt;obtain ⟨gT2, oT2, f2, l2, t2, eT, -, -, -, hxt2, a0, a1, a2, -⟩ := SlE.get hPS6.out.st hlt2
     cases eT
     rw [hxt] at hxt2
     cases hxt2
     have qL := hide (l11Place_calls t Q2 nQ2 cQ2 ps2 w6 _ _ (hPS6.out.w.p.sl flat_iv) (by omega));have hxth := hide hxt;clear hxt;go_upto_region 15 with fail;go_wp2_with fail;refine qL.out.mono ?_;rintro e wx ⟨q, rfl, hq, rfl⟩;have hlE3 := hPS6.out.w.e.len;clear qL
     rcases hq with ⟨rfl, hnot⟩ | ⟨q, rfl, hql, hqx⟩
     ·have g2 : ((-1 : Int)) < 0 := by omega
      have hO6 := hide hPS6.out.w.p;have hza6 : w0.heap.size ≤ (w6.alloc (.cells #[.int .i64 t] 2)).heap.size := by rw [World.size_alloc]; have := hPS6.out.w.bel.size; omega
      have hbAt : Below w6.heap.size w6 (w6.alloc (.cells #[.int .i64 t] 2)) := bR.alloc zR _;have hPSA := hide (hPS6.out.below hbAt);have hI2 := hide (hI.out.new hpm.out hl1 ht1 hnot hPut6.out);clear hbAt;go_wp2_with (first | (at_builtin; (with_reducible refine wpList_app rfl (.tmp 88) (.tmp 94) rfl hEi.out flat_iv rfl hPSA.out.w.p rfl (Sl.lit1' w6 2 t _ rfl 1 _ ?d0) ?d1 hza6 ?_); rotate_right; intro Q7 c9 w9 hown9 hgr9 hb9 hat9))
      case d0 => rfl
      case d1 => omega
      have hPS9 := hide (hPSA.out.pushP hgr9 hown9 hb9 hat9);clear hown9 hgr9 hb9 hat9;go_wp2_with fail;go_roundw
      case rel => exact ⟨i + 1, nQ2 + 1, c9, nE3, cE3, Q7, E3, _, es3, by omega, by go_num, rfl, rfl, by omega, hPS9.out, hI2.out, List.mem_append_left _ hfm.out, List.mem_append_left _ hpm.out⟩
      case measure => simp [intOf]; omega
     ·have g2 : ¬ ((q : Int)) < 0 := by omega
      have hI2 := hide (hI.out.old hpm.out hl1 (List.mem_of_getElem? hqx) hPut6.out);replace hqx := hide hqx;go_wp2_with fail;go_roundw
      case rel => exact ⟨i + 1, nQ2, cQ2, nE3, cE3, Q2, E3, ps2, es3, by omega, by go_num, rfl, rfl, hkQ, hPS6.out, hI2.out, hfm.out, hpm.out⟩
      case measure => simp [intOf]; omega
    ·obtain rfl : i = nT := by omega
     have i1 : ¬ (i : Int) < (i : Int) := by omega
     have hW2 := hide hPS.out.w;have g40 : ¬ (nQ2 : Int) > 40 := by omega
     have hmo := hmul.out;have g300 : ¬ (nE2 : Int) > 300 := by omega
     have hI2 := hide (hI.out.more (show k * K1 + i ≤ (k + 1) * K1 by omega));clear hPS hI;go_wp2_with fail;go_roundw
     case rel => exact ⟨k + 1, nQ2, cQ2, nE2, cE2, Q2, E2, ps2, es2, by omega, by go_num, rfl, rfl, hW2.out, hI2.out, hfm.out⟩
     case measure => simp [intOf]; omega
  ·obtain rfl : k = nQ := by omega
   have k1 : ¬ (k : Int) < (k : Int) := by omega
   obtain ⟨wK, rfl⟩ : ∃ wK : World, wK = wr := ⟨_, rfl⟩;have hzK := hW.out.bel.size;have hI9 := hide (hI.out.more (show k * K1 ≤ 300 from Nat.le_trans (Nat.mul_le_mul_right K1 (show k ≤ Bn by omega)) hMKh.out));have hfew9 : es.length ≤ Bn * K1 := Nat.le_trans hI.out.few (Nat.mul_le_mul_right K1 (show k ≤ Bn by omega));obtain ⟨w10, hw10⟩ : ∃ w10, w10 = wK.alloc (.cells #[] 2) := ⟨_, rfl⟩;have hb10K : Below wK.heap.size wK w10 := by rw [hw10]; exact bR.alloc zR _
   have hW10 := hide (hW.out.below hb10K);have hO10 : Hid (SlI w10 0 w10.heap.size (some ⟨wK.heap.size, 0, none⟩) 0 []) := ⟨rfl, fun h0 => absurd h0 (Nat.lt_irrefl _)⟩;have hfm9 := hfm;clear hW hI hfm hb10K;go_upto_region 20 with fail;rw [show wK.alloc (.cells #[] 2) = w10 from hw10.symm];replace hw10 := hide hw10;go_wp2_with fail
   go_loopw [15, 16] (fun v15 v16 wr => ∃ (i nO cO : Nat) (O : Option Addr) (o : List Int), i ≤ k ∧ v16 = .int .i64 (i : Int) ∧ v15 = .slice O nO cO ∧ Hid (PEW w0 wr Q k cQ ps E nE cE es) ∧ Hid (SlI wr 0 wr.heap.size O nO o) ∧ Hid (OrdI (ps.take i) o) ∧ nO ≤ i) (fun _ v _ => k - (intOf v).toNat)
   case atStart => exact ⟨0, 0, 0, _, [], Nat.zero_le _, rfl, rfl, hW10.out, hO10.out, OrdI.nil, zR⟩
   case round =>
    clear hW10 hO10;obtain ⟨i, nO, cO, O, o, hi, rfl, rfl, hW, hO, hR, hnO⟩ := hrel
    by_cases hlt2 : i < k
    ·obtain ⟨gQ, oQ, p, rfl, -, -, -, hxp, p0, -⟩ := SlI.get (hW.out.p.sl flat_iv) hlt2
     have qU := hide (l00Put_calls O nO cO o p wr _ _ hO.out hR.out.1 (by omega));have hR2 : Hid (OrdI (ps.take (i + 1)) (putI o p)) := by
      show OrdI _ _
      rw [List.take_add_one, hxp];exact hR.out.put
     have i0 : (0 : Int) ≤ (i : Int) := by omega
     have i1 : (i : Int) < (k : Int) := by omega
     clear hxp;go_upto_region 23 with fail;go_wp2_with fail;refine qU.out.mono ?_;rintro e w11 ⟨O2, nO2, cO2, rfl, hO2, hn2, hb11⟩;have hW11 := hide (hW.out.below hb11);have hS11 := hide ((hO2.sl flat_iv).here');clear qU hO2 hb11 hW hO p0;go_wp2_with fail;go_roundw
     case rel => exact ⟨i + 1, nO2, cO2, O2, _, by omega, by go_num, rfl, hW11.out, hS11.out, hR2.out, by omega⟩
     case measure => simp [intOf]; omega
    ·obtain rfl : i = k := by omega
     have i1 : ¬ (i : Int) < (i : Int) := by omega
     have hall : ps.take i = ps := List.take_of_length_le (by omega);rw [hall] at hR;have hnd : o.Nodup := hR.out.1.imp fun h => by omega
     have hol := hO.out.len;have hbB := hI9.out.size;obtain ⟨wF, rfl⟩ : ∃ wF : World, wF = wr := ⟨_, rfl⟩;have hbF := hide (hb10.out.trans (hW.out.bel.mono hb10.out.size));have hJF := hide (hJ1.out.below hW.out.bel (.inr zR));have hRh := hide hR.out;have hz0F := hW.out.bel.size;have hPos : Hid (∀ {wx : World} {v : Int}, Below wF.heap.size wF wx → Calls Tryz.prog 87 #[.slice O nO cO, .int .i64 v] wx fun e w' => e = .returned (.int .i64 (posZ o v)) ∧ wx = w') := fun {wx v} hb => by
      refine (l11Place_calls v O nO cO o wx _ _ (hO.out.below hb (.inr zR)) (by omega)).mono ?_;rintro e w' ⟨q, rfl, hq, rfl⟩;exact ⟨by rw [hq.pos hnd], rfl⟩
     have hval := hide (PrI.valid (ls := joiF (la ++ lb)) (p := fi) (by rw [hJn]; exact hI9.out) hR.out hfm9.out hBK zR (joi_names hnamh.out (by omega)))
     -- the answer's box
     obtain ⟨wL, hwL⟩ : ∃ wL, wL = wF.alloc (.cells #[] 84) := ⟨_, rfl⟩;have zL : wL.heap.size = wF.heap.size + 1 := by rw [hwL]; exact World.size_alloc _ _
     have hbFL : Below wF.heap.size wF wL := by rw [hwL]; exact bR.alloc zR _
     obtain ⟨wG, hwG⟩ : ∃ wG, wG = wL.alloc (.cells #[.int .i64 (nO : Int), .int .i64 (posZ o fi), .slice A7 nJ c7, .slice (some ⟨wF.heap.size, 0, none⟩) 0 0] 27) := ⟨_, rfl⟩;have hbLG : Below wL.heap.size wL wG := by rw [hwG]; exact bR.alloc zR _
     have hV0 : Hid (OutV wF wG (wF.heap.size + 1) (nO : Int) (posZ o fi) A7 nJ c7 (some ⟨wF.heap.size, 0, none⟩) 0 0 []) := by
      have h1 : Own 3 ev wL wF.heap.size 84 (some ⟨wF.heap.size, 0, none⟩) 0 0 [] := by rw [hwL]; exact Own.made _ _ zR
      refine ⟨?_, h1.below hbLG zR, fun q hq => ?_, Nat.lt_succ_self _, hbFL.trans (hbLG.mono (by omega))⟩
      ·have := heap_alloc_new wL (.cells #[.int .i64 (nO : Int), .int .i64 (posZ o fi), .slice A7 nJ c7, .slice (some ⟨wF.heap.size, 0, none⟩) 0 0] 27)
       rw [zL] at this;rw [hwG]; exact this
      ·have hq : some wF.heap.size = some q := hq
       injection hq with e;omega
     have hSEd := hide (hW.out.e.sl flat_ev);have qF := hide (hPos.out (v := fi) bR);replace hall := hide hall;replace hnd := hide hnd;clear hW hO hR hbFL hbLG;go_upto_region 24 with fail;go_wp2_with fail;refine qF.out.mono ?_;rintro e wx ⟨rfl, rfl⟩;clear qF;go_upto_region 25 with fail;rw [show (wF.alloc (.cells #[] 84)).alloc (.cells #[.int .i64 (nO : Int), .int .i64 (posZ o fi), .slice A7 nJ c7, .slice (some ⟨wF.heap.size, 0, none⟩) 0 0] 27) = wG by rw [hwG, hwL]];replace hwL := hide hwL;replace hwG := hide hwG;replace zL := hide zL;go_wp2_with fail
     go_loopw [18] (fun v18 wr => ∃ (j kD cD : Nat) (D : Option Addr), j ≤ nE ∧ v18 = .int .i64 (j : Int) ∧ kD ≤ j ∧ Hid (OutV wF wr (wF.heap.size + 1) (nO : Int) (posZ o fi) A7 nJ c7 D kD cD ((es.take j).map fun e => (posZ o e.1, e.2.1, posZ o e.2.2)))) (fun v _ => nE - (intOf v).toNat)
     case atStart => exact ⟨0, 0, 0, _, Nat.zero_le _, rfl, zR, hV0.out⟩
     case round =>
      clear hV0;obtain ⟨j, kD, cD, D, hj, rfl, hkD, hV⟩ := hrel
      by_cases hlt3 : j < nE
      ·obtain ⟨gE, oE, f, l, t, rfl, -, -, hgE, hxe, a0, a1, a2, -⟩ := SlE.get (hSEd.out.below hV.out.bel (.inr zR)) hlt3
       have hsu : Hid ((es.take (j + 1)).map (fun e => (posZ o e.1, e.2.1, posZ o e.2.2)) = (es.take j).map (fun e => (posZ o e.1, e.2.1, posZ o e.2.2)) ++ [(posZ o f, l, posZ o t)]) := by
        show _ = _
        rw [List.take_add_one, hxe, List.map_append]
        rfl
       have hzv := hV.out.bel.size;have hE300 : nE ≤ 300 := by have := Nat.le_trans hfew9 hMKh.out; omega
       obtain ⟨wE, hwE⟩ : ∃ wE, wE = wr.alloc (.cells #[.int .i64 f, .int .i64 l, .int .i64 t] 84) := ⟨_, rfl⟩;have hbE : Below wr.heap.size wr wE := by rw [hwE]; exact bR.alloc zR _
       have kE : wE.heap[wr.heap.size]? = some (.cells #[.int .i64 f, .int .i64 l, .int .i64 t] 84 (0, 0)) := by rw [hwE]; exact heap_alloc_new wr _
       have y0 := (cell_of_row _ _ 0 _ _ (0, 0) kE).trans (show _ = some (Value.int .i64 f) from rfl);have g0 := frozen_of_row _ _ 0 _ _ kE;obtain ⟨wE1, hwE1⟩ : ∃ wE1, wE1 = wE.setCell ⟨wr.heap.size, 0, none⟩ (.int .i64 (posZ o f)) := ⟨_, rfl⟩;have kE1 : wE1.heap[wr.heap.size]? = some (.cells #[.int .i64 (posZ o f), .int .i64 l, .int .i64 t] 84 (0, 0)) := by rw [hwE1]; exact heap_setCell_same wE _ 0 _ _ _ kE
       have hbE1 : Below wr.heap.size wr wE1 := by rw [hwE1]; exact hbE.setCell zR _
       have y2 := (cell_of_row _ _ 2 _ _ (0, 0) kE1).trans (show _ = some (Value.int .i64 t) from rfl);have g2 := frozen_of_row _ _ 2 _ _ kE1;obtain ⟨wE2, hwE2⟩ : ∃ wE2, wE2 = wE1.setCell ⟨wr.heap.size, 2, none⟩ (.int .i64 (posZ o t)) := ⟨_, rfl⟩;have kE2 : wE2.heap[wr.heap.size]? = some (.cells #[.int .i64 (posZ o f), .int .i64 l, .int .i64 (posZ o t)] 84 (0, 0)) := by rw [hwE2]; exact heap_setCell_same wE1 _ 2 _ _ _ kE1
       have hbE2 : Below wr.heap.size wr wE2 := by rw [hwE2]; exact hbE1.setCell zR _
       have x0 := (cell_of_row _ _ 0 _ _ (0, 0) kE2).trans (show _ = some (Value.int .i64 (posZ o f)) from rfl);have x1 := (cell_of_row _ _ 1 _ _ (0, 0) kE2).trans (show _ = some (Value.int .i64 l) from rfl);have x2 := (cell_of_row _ _ 2 _ _ (0, 0) kE2).trans (show _ = some (Value.int .i64 (posZ o t)) from rfl);have q29 := hide (hPos.out (wx := wE) (v := f) (hV.out.bel.trans (hbE.mono hzv)));have q30 := hide (hPos.out (wx := wE1) (v := t) (hV.out.bel.trans (hbE1.mono hzv)));have hVE := hV.out.below hbE2;have d3 := hVE.box.c3;have hza : wF.heap.size ≤ (wE2.alloc (.cells #[.int .i64 (posZ o f), .int .i64 l, .int .i64 (posZ o t)] 84)).heap.size := by rw [World.size_alloc]; have := hVE.bel.size; omega
       have hbA : Below wE2.heap.size wE2 (wE2.alloc (.cells #[.int .i64 (posZ o f), .int .i64 l, .int .i64 (posZ o t)] 84)) := bR.alloc zR _;have hVA := hide (hVE.below hbA);have j0 : (0 : Int) ≤ (j : Int) := by omega
       have j1 : (j : Int) < (nE : Int) := by omega
       clear hxe hbE hbE1 hbE2 kE kE1 kE2 hVE hbA hV;obtain ⟨wS, rfl⟩ : ∃ wS : World, wS = wr := ⟨_, rfl⟩;go_upto_region 29 with fail;rw [show wS.alloc (.cells #[.int .i64 f, .int .i64 l, .int .i64 t] 84) = wE from hwE.symm];replace hwE := hide hwE;clear a0 a1 a2;go_wp2_with fail;refine q29.out.mono ?_;rintro e wx ⟨rfl, rfl⟩;go_upto_region 30 with fail;rw [show wE.setCell ⟨wS.heap.size, 0, none⟩ (.int .i64 (posZ o f)) = wE1 from hwE1.symm];replace hwE1 := hide hwE1;clear y0 g0 q29;go_wp2_with fail;refine q30.out.mono ?_;rintro e wx ⟨rfl, rfl⟩;go_upto_region 31 with fail;rw [show wE1.setCell ⟨wS.heap.size, 2, none⟩ (.int .i64 (posZ o t)) = wE2 from hwE2.symm];replace hwE2 := hide hwE2;clear y2 g2 q30;go_wp2_with (first | (at_builtin; (with_reducible refine wpList_app rfl (.tmp 147) (.tmp 149) rfl hEe.out flat_ev rfl hVA.out.own rfl (Sl.lit1' wE2 84 (posZ o f, l, posZ o t) _ rfl 3 _ ?d0) ?d1 hza ?_); rotate_right; intro D7 c9 w9 hown9 hgr9 hb9 hat9; have k9 := hVA.out.mid hgr9; have k9c := k9.c3; have k9f := k9.f3; have hV9 := hide (hVA.out.next hgr9 hb9 hown9 hat9); clear k9 hown9 hgr9 hb9 hat9))
       case d0 => rfl
       case d1 => omega
       go_wp2_with fail;go_roundw
       case rel => exact ⟨j + 1, kD + 1, c9, D7, by omega, by go_num, by omega, by rw [hsu.out]; exact hV9.out⟩
       case measure => simp [intOf]; omega
      ·obtain rfl : j = nE := by omega
       have j1 : ¬ (j : Int) < (j : Int) := by omega
       have hallE : es.take j = es := List.take_of_length_le (by omega);rw [hallE] at hV;have hzv := hV.out.bel.size;obtain ⟨-, -, -, -, -, kR, hbw⟩ := hFr.out (hbF.out.trans (hV.out.bel.mono hbF.out.size));have o0 := hV.out.box.c0;have o1 := hV.out.box.c1;have o2 := hV.out.box.c2;have o3 := hV.out.box.c3;have r0 := kR.c0;have r1 := kR.c1;have r2 := kR.c2;have r3 := kR.c3;have v0 := kR.f0;have v1 := kR.f1;have v2 := kR.f2;have v3 := kR.f3;have hbwh := hide hbw;have hbFz := hbF.out.size;obtain ⟨hv1, hv2, hv3⟩ := hval.out;obtain ⟨i0, hi0⟩ : ∃ i0 : Nat, posZ o fi = (i0 : Int) := ⟨(posZ o fi).toNat, by omega⟩;rw [hi0] at hv1;have hv1h := hide hv1;replace hi0 := hide hi0;have hVh := hide hV.out;have hkR := kR.lt;clear kR hbw hV hv1;go_wp2_with fail
       (try simp only [Exit.inBlock, Exit.then])
       refine bodyPost_ret_by (v := .tuple #[.agg #[.int .i64 (nO : Int), .int .i64 (posZ o fi), .slice A7 nJ c7, .slice D kD cD], .bool true]) ?_ rfl ?_
       focus
        rw [results_cs rfl];go_simp
       rw [hi0.out];have hZs := put4_size wr w.heap.size (.int .i64 (nO : Int)) (.int .i64 (i0 : Int)) (.slice A7 nJ c7) (.slice D kD cD);have hJr := (hJF.out.below hVh.out.bel (.inr zR));have hzd : w1.drew.heap.size = w1.heap.size := rfl;have hOl : o.length ≤ Bn := Nat.le_trans (hRh.out.len hI9.out.nd) hbB;refine .inr ⟨nO, i0, A7, nJ, c7, D, kD, cD, es.map fun e => (posZ o e.1, e.2.1, posZ o e.2.2), rfl, ?_, ?_, by rw [← hol]; exact hv1h.out, by rw [← hBnh.out]; omega, by rw [List.length_map, ← hBnh.out]; exact hfew9, ?_⟩
       ·exact ((hJr.keep (w' := put4 wr w.heap.size (.int .i64 (nO : Int)) (.int .i64 (i0 : Int)) (.slice A7 nJ c7) (.slice D kD cD)) (Nat.le_of_eq hZs.symm) fun b h1 h2 h3 => put4_other _ _ _ _ _ _ (by omega)).more (by omega) (by show _ ≤ (put4 wr w.heap.size (.int .i64 (nO : Int)) (.int .i64 (i0 : Int)) (.slice A7 nJ c7) (.slice D kD cD)).heap.size; omega))
       ·have h1 : Own 3 ev (put4 wr w.heap.size (.int .i64 (nO : Int)) (.int .i64 (i0 : Int)) (.slice A7 nJ c7) (.slice D kD cD)) wF.heap.size 84 D kD cD (es.map fun e => (posZ o e.1, e.2.1, posZ o e.2.2)) := hVh.out.own.keep fun b hb' => put4_other _ _ _ _ _ _ (by have := (hVh.out.own.lt b hb').1; omega)
        exact (h1.sl flat_ev).more (by omega) zR
       ·exact (((hbwh.out.setCell zR _).setCell zR _).setCell zR _).setCell zR _
end
end Go.Proofs.YtnhomkmfbngmgaaGreatDoor
