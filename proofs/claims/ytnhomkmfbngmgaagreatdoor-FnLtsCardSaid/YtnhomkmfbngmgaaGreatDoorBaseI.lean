/-
  Lemmas that the law of this claim leans on. Conditions: sizes.
-/
import Derived.Test.YtnhomkmfbngmgaaGreatDoorBaseD
import Derived.Test.YtnhomkmfbngmgaaGreatDoorBaseF
import Derived.Test.YtnhomkmfbngmgaaGreatDoorBaseG
import Derived.Test.YtnhomkmfbngmgaaGreatDoorBaseH
import Derived.Lib.SliceRun
import Derived.StillTailTactics
import Derived.Deep.LoopGhost
set_option maxHeartbeats 6400000
set_option maxRecDepth 100000
set_option linter.unusedSimpArgs false
set_option linter.unusedVariables false
namespace Go.Proofs.YtnhomkmfbngmgaaGreatDoor
open Go.ChangeShapes Go.WideShapes Go.ChangeAt Go.RowKit Go.Sort Go.Lib
structure TwoS (w wr : World) (Na ia : Nat) (A : Option Addr) (n c : Nat) (B : Option Addr) (m d : Nat) (Nb ib : Nat) (A' : Option Addr) (n' c' : Nat) (B' : Option Addr) (m' d' : Nat) : Prop where
 boxa : LtsBox wr w.heap.size (Na : Int) (ia : Int) A n c B m d
 boxb : LtsBox wr (w.heap.size + 1) (Nb : Int) (ib : Int) A' n' c' B' m' d'
 bel : Below w.heap.size w wr
def TwoC (w w' : World) (Na ia : Nat) (A : Option Addr) (n c : Nat) (B : Option Addr) (m d : Nat) (Nb ib : Nat) (A' : Option Addr) (n' c' : Nat) (B' : Option Addr) (m' d' : Nat) : Prop :=
 w'.cell? ⟨w.heap.size, 0, none⟩ = some (.int .i64 (Na : Int)) ∧ w'.cell? ⟨w.heap.size, 1, none⟩ = some (.int .i64 (ia : Int)) ∧ w'.cell? ⟨w.heap.size, 2, none⟩ = some (.slice A n c) ∧ w'.cell? ⟨w.heap.size, 3, none⟩ = some (.slice B m d) ∧
 w'.cell? ⟨w.heap.size + 1, 0, none⟩ = some (.int .i64 (Nb : Int)) ∧ w'.cell? ⟨w.heap.size + 1, 1, none⟩ = some (.int .i64 (ib : Int)) ∧ w'.cell? ⟨w.heap.size + 1, 2, none⟩ = some (.slice A' n' c') ∧ w'.cell? ⟨w.heap.size + 1, 3, none⟩ = some (.slice B' m' d')
section
variable {w wr w2 : World} {Na ia : Nat} {A : Option Addr} {n c : Nat} {B : Option Addr} {m d : Nat} {Nb ib : Nat} {A' : Option Addr} {n' c' : Nat} {B' : Option Addr} {m' d' : Nat}
theorem TwoS.below (h : TwoS w wr Na ia A n c B m d Nb ib A' n' c' B' m' d') {K : Nat} (hb : Below K wr w2) (hK : wr.heap.size ≤ K) : TwoS w w2 Na ia A n c B m d Nb ib A' n' c' B' m' d' := by
 have := h.boxa.lt;have := h.boxb.lt;exact ⟨h.boxa.below hb (by omega), h.boxb.below hb (by omega), h.bel.trans (hb.mono (by omega))⟩
theorem TwoS.cells (h : TwoS w wr Na ia A n c B m d Nb ib A' n' c' B' m' d') : TwoC w wr Na ia A n c B m d Nb ib A' n' c' B' m' d' :=
 ⟨h.boxa.c0, h.boxa.c1, h.boxa.c2, h.boxa.c3, h.boxb.c0, h.boxb.c1, h.boxb.c2, h.boxb.c3⟩
theorem TwoS.start (w : World) (Na ia : Nat) (A : Option Addr) (n c : Nat) (B : Option Addr) (m d : Nat) (Nb ib : Nat) (A' : Option Addr) (n' c' : Nat) (B' : Option Addr) (m' d' : Nat) :
  TwoS w ((w.alloc (ltsC Na ia A n c B m d)).alloc (ltsC Nb ib A' n' c' B' m' d')) Na ia A n c B m d Nb ib A' n' c' B' m' d' := by
 have z1 : (w.alloc (ltsC Na ia A n c B m d)).heap.size = w.heap.size + 1 := World.size_alloc _ _;have b1 := (Below.refl (w.heap.size + 1) (w.alloc (ltsC Na ia A n c B m d))).alloc (by omega) (ltsC Nb ib A' n' c' B' m' d');have x1 : LtsBox (w.alloc (ltsC Na ia A n c B m d)) w.heap.size (Na : Int) (ia : Int) A n c B m d := heap_alloc_new w _;have x2 : LtsBox ((w.alloc (ltsC Na ia A n c B m d)).alloc (ltsC Nb ib A' n' c' B' m' d')) (w.heap.size + 1) (Nb : Int) (ib : Int) A' n' c' B' m' d' := by rw [← z1]; exact heap_alloc_new _ _
 exact ⟨x1.below b1 (by omega), x2, ((Below.refl w.heap.size w).alloc zR _).trans (b1.mono (by omega))⟩
end
theorem initialTogether_calls (Na ia : Nat) (A : Option Addr) (n c : Nat) (B : Option Addr) (m d : Nat) (Nb ib : Nat) (A' : Option Addr) (n' c' : Nat) (B' : Option Addr) (m' d' : Nat) (P : Option Addr) (cP : Nat) (p : List Int) (w : World) (lo hi : Nat) (hP : SlI w lo hi P (Na + Nb) p) (hia : ia < Na) (hib : ib < Nb) (hNa : Na ≤ 40) (hNb : Nb ≤ 40) :
  Calls Tryz.prog 136 #[.agg #[.int .i64 (Na : Int), .int .i64 (ia : Int), .slice A n c, .slice B m d], .agg #[.int .i64 (Nb : Int), .int .i64 (ib : Int), .slice A' n' c', .slice B' m' d'], .slice P (Na + Nb) cP] w (Says (decide (p[ia]? = p[Na + ib]?)) w) := by
 have hT := TwoS.start w Na ia A n c B m d Nb ib A' n' c' B' m' d';obtain ⟨w1, hw1⟩ : ∃ w1, w1 = (w.alloc (ltsC Na ia A n c B m d)).alloc (ltsC Nb ib A' n' c' B' m' d') := ⟨_, rfl⟩;rw [← hw1] at hT;obtain ⟨g, o, x, rfl, -, -, hg, hx, cx, -⟩ := SlI.get hP (show ia < Na + Nb by omega);obtain ⟨g2, o2, y, e2, -, -, hg2, hy, cy, -⟩ := SlI.get hP (show Na + ib < Na + Nb by omega);cases e2;replace cx := (hT.bel.cell (p := ⟨g, o + ia, none⟩) hg).trans cx;replace cy := (hT.bel.cell (p := ⟨g, o + (Na + ib), none⟩) hg).trans cy;obtain ⟨a0, a1, a2, a3, b0, b1, b2, b3⟩ := hT.cells;have hsum : IntKind.i64.wrap ((Na : Int) + (ib : Int)) = (Na : Int) + (ib : Int) := IntWalk.i64_in _ (by omega);have hsum2 : ((Na : Int) + (ib : Int)).toNat = Na + ib := by omega
 have i0 : (0 : Int) ≤ (ia : Int) := by omega
 have i1 : (ia : Int) < ((Na + Nb : Nat) : Int) := by omega
 have j0 : (0 : Int) ≤ (Na : Int) + (ib : Int) := by omega
 have j1 : (Na : Int) + (ib : Int) < ((Na + Nb : Nat) : Int) := by omega
 have hv : decide (p[ia]? = p[Na + ib]?) = (x == y) := by rw [hx, hy]; by_cases e : x = y <;> simp [e]
 rw [hv];have hbel := hide hT.bel;clear hT hP hx hy hv
 by_cases e : x = y
 ·subst e
  have g1 : (x == x) = true := by simp
  rw [g1];go_enter Tryz.func136, Tryz.ntmps136;go_upto_region 1 with fail;rw [show ((w.alloc (.cells #[.int .i64 (Na : Int), .int .i64 (ia : Int), .slice A n c, .slice B m d] 27)).alloc (.cells #[.int .i64 (Nb : Int), .int .i64 (ib : Int), .slice A' n' c', .slice B' m' d'] 27)) = w1 from hw1.symm];replace hw1 := hide hw1;go_quiet (fail);go_wp2_with fail;go_ret;exact ⟨rfl, hbel.out.trans ((below_drewN _ _).mono hbel.out.size)⟩
 ·have g1 : (x == y) = false := by rw [beq_eq_false_iff_ne]; exact e
  rw [g1];go_enter Tryz.func136, Tryz.ntmps136;go_upto_region 1 with fail;rw [show ((w.alloc (.cells #[.int .i64 (Na : Int), .int .i64 (ia : Int), .slice A n c, .slice B m d] 27)).alloc (.cells #[.int .i64 (Nb : Int), .int .i64 (ib : Int), .slice A' n' c', .slice B' m' d'] 27)) = w1 from hw1.symm];replace hw1 := hide hw1;go_quiet (fail);go_wp2_with fail;go_ret;exact ⟨rfl, hbel.out.trans ((below_drewN _ _).mono hbel.out.size)⟩
section
variable {w : World} {Na ia : Nat} {A : Option Addr} {n : Nat} {B : Option Addr} {m : Nat} {la : List ByteArray} {ea : List Ed} {Nb ib : Nat} {A' : Option Addr} {n' : Nat} {B' : Option Addr} {m' : Nat} {lb : List ByteArray} {eb : List Ed}
theorem SysA.three (h : SysA w Na ia A n B m la ea) : ∀ e, e ∈ ea → (0 ≤ e.1 ∧ e.1 < (Na : Int)) ∧ (0 ≤ e.2.1 ∧ e.2.1 < (la.length : Int)) ∧ (0 ≤ e.2.2 ∧ e.2.2 < (Na : Int)) := fun e he => ⟨(h.ends e he).1, h.labs e he, (h.ends e he).2⟩
theorem both_calls (h : SysA w Na ia A n B m la ea) (g : SysA w Nb ib A' n' B' m' lb eb) (c d c' d' : Nat) (hsum : Na + Nb ≤ 80) :
  Calls Tryz.prog 137 #[.agg #[.int .i64 (Na : Int), .int .i64 (ia : Int), .slice A n c, .slice B m d], .agg #[.int .i64 (Nb : Int), .int .i64 (ib : Int), .slice A' n' c', .slice B' m' d'], .func (.func 64) #[] #[]] w fun e w' => ∃ r P cP, e = .returned (.slice P (Na + Nb) cP) ∧ LastR (uniE la ea lb eb Na) (Na + Nb) r ∧ SlI w' w.heap.size w'.heap.size P (Na + Nb) (rndP (uniE la ea lb eb Na) (Na + Nb) r) ∧ Below w.heap.size w w' := by
 have hT := TwoS.start w Na ia A n c B m d Nb ib A' n' c' B' m' d';obtain ⟨w1, hw1⟩ : ∃ w1, w1 = (w.alloc (ltsC Na ia A n c B m d)).alloc (ltsC Nb ib A' n' c' B' m' d') := ⟨_, rfl⟩;rw [← hw1] at hT;obtain ⟨hm, hn12, hn1, hle, hll⟩ := h.many;obtain ⟨hm', hn12', hn1', hle', hll'⟩ := g.many;have hbo := h.bounds.1.1;have hui := uni_in (la := la) (ea := ea) (lb := lb) (eb := eb) (by omega) (by omega) h.three g.three;have hqU := hide (union_calls (h.below hT.bel zR) (g.below hT.bel zR) c d c' d');have hul : (uniE la ea lb eb Na).length ≤ 1000 := by
  refine Nat.le_trans (ltsEs_len _ _) ?_;unfold uniA;simp only [List.length_append, List.length_map];omega
 obtain ⟨a0, a1, a2, a3, b0, b1, b2, b3⟩ := hT.cells;replace hui := hide hui;have hbel := hide hT.bel;clear hT h g;go_enter Tryz.func137, Tryz.ntmps137;go_upto_region 1 with fail;rw [show ((w.alloc (.cells #[.int .i64 (Na : Int), .int .i64 (ia : Int), .slice A n c, .slice B m d] 27)).alloc (.cells #[.int .i64 (Nb : Int), .int .i64 (ib : Int), .slice A' n' c', .slice B' m' d'] 27)) = w1 from hw1.symm];replace hw1 := hide hw1
 go_wp2_with (go_at_call 229; refine hqU.out.mono ?_; rintro e w2 ⟨A2, n2, c2, A3, n3, c3, rfl, hS2, hE2, hb2⟩)
 have hlen : (uniE la ea lb eb Na).length = n3 := hE2.len;have hz2 := hbel.out.size;have hS : SysE w2 (Na + Nb) A3 n3 (uniE la ea lb eb Na) := ⟨hE2.here', by omega, by omega, hsum, hui.out.1, hui.out.2⟩;have q := strongG_calls (ini := ia) (A := A2) (n := n2) hS c2 c3;rw [Int.natCast_add] at q;replace hS2 := hide hS2;replace hE2 := hide hE2;replace hlen := hide hlen;replace q := hide q;clear hS a0 a1 a2 a3 b0 b1 b2 b3;refine q.out.mono ?_;rintro e w3 ⟨r, P, cP, rfl, hL, hP, hb3⟩;have hbF := hide ((hbel.out.trans (hb2.mono hz2)).trans (hb3.mono (Nat.le_trans hz2 hb2.size)));have hPF := hide (hP.more (Nat.le_trans hz2 hb2.size) zR);replace hL := hide hL;clear hb2 hb3 hP q;go_wp2_with fail;go_ret;exact ⟨r, P, cP, rfl, hL.out, hPF.out, hbF.out⟩
theorem areBisimilar_calls (h : SysA w Na ia A n B m la ea) (g : SysA w Nb ib A' n' B' m' lb eb) (c d c' d' : Nat) (he : Env w) (hsum : Na + Nb ≤ 80) :
  Calls Tryz.prog 63 #[.agg #[.int .i64 (Na : Int), .int .i64 (ia : Int), .slice A n c, .slice B m d], .agg #[.int .i64 (Nb : Int), .int .i64 (ib : Int), .slice A' n' c', .slice B' m' d'], .func (.func 64) #[] #[]] w fun e w' => ∃ r, e = .returned (.tuple #[.bool (decide ((rndP (uniE la ea lb eb Na) (Na + Nb) r)[ia]? = (rndP (uniE la ea lb eb Na) (Na + Nb) r)[Na + ib]?)), .int .i64 0]) ∧ LastR (uniE la ea lb eb Na) (Na + Nb) r ∧ Below w.heap.size w w' := by
 have hT := TwoS.start w Na ia A n c B m d Nb ib A' n' c' B' m' d';obtain ⟨w1, hw1⟩ : ∃ w1, w1 = (w.alloc (ltsC Na ia A n c B m d)).alloc (ltsC Nb ib A' n' c' B' m' d') := ⟨_, rfl⟩;rw [← hw1] at hT;have hia := h.bounds.2;have hib := g.bounds.2;have hNa2 := h.bounds.1.2;have hNb2 := g.bounds.1.2;have he1 := he.below hT.bel zR;have hq1 := hide ((h.below hT.bel zR).valid c d he1);obtain ⟨a0, a1, a2, a3, b0, b1, b2, b3⟩ := hT.cells;replace hT := hide hT;go_enter Tryz.func63, Tryz.ntmps63;go_upto_region 1 with fail;rw [show ((w.alloc (.cells #[.int .i64 (Na : Int), .int .i64 (ia : Int), .slice A n c, .slice B m d] 27)).alloc (.cells #[.int .i64 (Nb : Int), .int .i64 (ib : Int), .slice A' n' c', .slice B' m' d'] 27)) = w1 from hw1.symm];replace hw1 := hide hw1;go_wp2_with fail;refine hq1.out.mono ?_;rintro e w2 ⟨rfl, hb2⟩;have hT2 := hT.out.below hb2 zR;have he2 := he1.below hb2 zR;have hq2 := hide ((g.below hT2.bel zR).valid c' d' he2);clear a0 a1 a2 a3 b0 b1 b2 b3 hb2 hq1;obtain ⟨a0, a1, a2, a3, b0, b1, b2, b3⟩ := hT2.cells;replace hT2 := hide hT2;go_wp2_with fail;refine hq2.out.mono ?_;rintro e w3 ⟨rfl, hb3⟩;have hT3 := hide (hT2.out.below hb3 zR);clear a0 a1 a2 a3 b0 b1 b2 b3 hb3 hq2;go_wp2_with fail;obtain ⟨wD, hwD⟩ : ∃ wD, wD = w3.drew := ⟨_, rfl⟩;have hTD := hide (hT3.out.below (w2 := wD) (K := w3.heap.size) (by rw [hwD]; exact bR.drew) zR);have hqB := hide (both_calls (h.below hTD.out.bel zR) (g.below hTD.out.bel zR) c d c' d' hsum);replace hwD := hide hwD;clear h g he he1 he2;refine lateT_begin (S := fun w' => TwoC w w' Na ia A n c B m d Nb ib A' n' c' B' m' d') (st := 8) (by kernel_rfl) ?_;rw [← show wD = _ from hwD.out];have hS0 : (fun w' : World => TwoC w w' Na ia A n c B m d Nb ib A' n' c' B' m' d') wD := hTD.out.cells;refine tkA _ 0 [8] rfl (Or.inl ⟨by rfl, by intro w9 hSw; obtain ⟨y0, y1, y2, y3, z0, z1, z2, z3⟩ := hSw; go_simp <;> with_reducible rfl⟩) hS0 ?_;refine tkA _ 1 [8] rfl (Or.inl ⟨by rfl, by intro w9 hSw; obtain ⟨y0, y1, y2, y3, z0, z1, z2, z3⟩ := hSw; go_simp <;> with_reducible rfl⟩) hS0 ?_;refine tkA _ 2 [8] rfl (Or.inl ⟨by rfl, by intro w9 hSw; obtain ⟨y0, y1, y2, y3, z0, z1, z2, z3⟩ := hSw; go_simp <;> with_reducible rfl⟩) hS0 ?_;refine tkA _ 3 [8] rfl (Or.inl ⟨by rfl, by intro w9 hSw; obtain ⟨y0, y1, y2, y3, z0, z1, z2, z3⟩ := hSw; go_simp <;> with_reducible rfl⟩) hS0 ?_;refine tkA _ 4 [8] rfl (Or.inl ⟨by rfl, by intro w9 hSw; obtain ⟨y0, y1, y2, y3, z0, z1, z2, z3⟩ := hSw; go_simp <;> with_reducible rfl⟩) hS0 ?_;refine lS 5 fun K hK => ?_
 go_simp;go_at_call 137
 refine hqB.out.mono ?_;rintro e w5 ⟨r, P, cP, rfl, hL, hP, hb5⟩;have hT5 := hide (hTD.out.below hb5 zR);have hqI := hide (initialTogether_calls Na ia A n c B m d Nb ib A' n' c' B' m' d' P cP _ w5 _ _ hP (by omega) (by omega) hNa2 hNb2);have hb5h := hide hb5;replace hL := hide hL;clear hb5;go_wp2_with fail;refine kP hK (fun _ => hT5.out.cells) ?_;clear hK K;refine lS 6 fun K hK => ?_
 go_simp;go_at_call 136
 refine hqI.out.mono ?_;rintro e w6 ⟨rfl, hb6⟩;have hT6 := hide (hT5.out.below hb6 zR);clear hqI;go_wp2_with fail;refine kP hK (fun _ => hT6.out.cells) ?_;clear hK K;refine lS 7 fun K hK => ?_
 go_simp;refine kP hK (fun _ => hT6.out.cells) ?_
 clear hK K;refine lS 8 fun K hK => ?_
 go_simp;refine kP hK nH ?_
 clear hK K;refine lateT_done (by kernel_rfl) ?_ _;have hbF := hT6.out.bel;go_wp2_with fail;go_ret2;exact ⟨r, rfl, hL.out, hbF⟩
theorem areBis_calls (h : SysA w Na ia A n B m la ea) (g : SysA w Nb ib A' n' B' m' lb eb) (c d c' d' : Nat) (he : Env w) (hsum : Na + Nb ≤ 80) :
  Calls Tryz.prog 19 #[.agg #[.int .i64 (Na : Int), .int .i64 (ia : Int), .slice A n c, .slice B m d], .agg #[.int .i64 (Nb : Int), .int .i64 (ib : Int), .slice A' n' c', .slice B' m' d']] w fun e w' => ∃ r, e = .returned (.tuple #[.bool (decide ((rndP (uniE la ea lb eb Na) (Na + Nb) r)[ia]? = (rndP (uniE la ea lb eb Na) (Na + Nb) r)[Na + ib]?)), .int .i64 0]) ∧ LastR (uniE la ea lb eb Na) (Na + Nb) r ∧ Below w.heap.size w w' := by
 have hT := TwoS.start w Na ia A n c B m d Nb ib A' n' c' B' m' d';obtain ⟨w1, hw1⟩ : ∃ w1, w1 = (w.alloc (ltsC Na ia A n c B m d)).alloc (ltsC Nb ib A' n' c' B' m' d') := ⟨_, rfl⟩;rw [← hw1] at hT;have hq := hide (areBisimilar_calls (h.below hT.bel zR) (g.below hT.bel zR) c d c' d' (he.below hT.bel zR) hsum);obtain ⟨a0, a1, a2, a3, b0, b1, b2, b3⟩ := hT.cells;have hbel := hide hT.bel;clear hT h g he;go_enter Tryz.func19, Tryz.ntmps19;go_upto_region 1 with fail;rw [show ((w.alloc (.cells #[.int .i64 (Na : Int), .int .i64 (ia : Int), .slice A n c, .slice B m d] 27)).alloc (.cells #[.int .i64 (Nb : Int), .int .i64 (ib : Int), .slice A' n' c', .slice B' m' d'] 27)) = w1 from hw1.symm];replace hw1 := hide hw1;go_wp2_with fail;refine hq.out.mono ?_;rintro e w2 ⟨r, rfl, hL, hb2⟩;have hbF := hide (hbel.out.trans (hb2.mono hbel.out.size));replace hL := hide hL;clear hq hb2 a0 a1 a2 a3 b0 b1 b2 b3;go_wp2_with fail;go_ret2;exact ⟨r, rfl, hL.out, hbF.out⟩
end
end Go.Proofs.YtnhomkmfbngmgaaGreatDoor
namespace Go.Proofs.YtnhomkmfbngmgaaGreatDoor
open Go.ChangeShapes Go.WideShapes Go.ChangeAt Go.RowKit
theorem below_cells {B b : Nat} {a : World} (hb : B ≤ b) : ∀ (vs : List Value) (o : Nat) (w : World), Below B a w → Below B a (w.setCells b o vs)
 | [], _, _, h => h
 | v :: r, o, w, h => below_cells hb r (o + 1) _ (h.setCell hb v)
theorem size_cells (b : Nat) : ∀ (vs : List Value) (o : Nat) (w : World), (w.setCells b o vs).heap.size = w.heap.size
 | [], _, _ => rfl
 | v :: r, o, w => (size_cells b r (o + 1) _).trans (World.size_setCell _ _ _)
theorem filter_step {q : Int → Bool} {l : List Int} {k : Nat} {x : Int} (hx : l[k]? = some x) : (l.take (k + 1)).filter q = (l.take k).filter q ++ if q x then [x] else [] := by
 rw [List.take_add_one, hx, List.filter_append]
 cases h : q x <;> simp [h]
def firstI (G : Int → Bool) (l : List Int) (i : Int) : Prop := (i = -1 ∧ l.any G = false) ∨ ∃ k : Nat, i = k ∧ k < l.length ∧ (l.take k).any G = false ∧ ∃ x, l[k]? = some x ∧ G x = true
theorem indexFuncI2_calls (F : FuncId) (caps : Array Value) (G : Int → Bool) (A : Option Addr) (n c : Nat) (l : List Int) (w : World) (lo hi : Nat) (h : SlI w lo hi A n l) (hn : n ≤ 1048576)
  (hF : ∀ (v : Value) (W : World), Sem.run Tryz.prog (callFunc F (#[v] ++ caps)) W = .ok (.enter F (#[v] ++ caps)) W)
  (hcl : ∀ (v : Int) (W : World), v ∈ l → Below w.heap.size w W → Calls Tryz.prog F (#[.int .i64 v] ++ caps) W (Says (G v) W)) :
  Calls Tryz.prog 222 #[.slice A n c, .func (.func F) #[] caps] w fun e w' => ∃ i : Int, e = .returned (.int .i64 i) ∧ firstI G l i ∧ Below w.heap.size w w' := by
 have hlen := hide h.len;replace hcl := hide hcl;go_enter Tryz.func222, Tryz.ntmps222
 go_wp2
 go_loopw [8] (fun i wr => ∃ k : Nat, k ≤ n ∧ i = .int .i64 k ∧ Below w.heap.size w wr ∧ Hid ((l.take k).any G = false)) (fun i _ => n - (intOf i).toNat)
 case atStart => exact ⟨0, Nat.zero_le _, rfl, bR, rfl⟩
 case round =>
  obtain ⟨k, hk, rfl, hb, ha⟩ := hrel
  by_cases hlt : k < n
  ·obtain ⟨b, off, x, rfl, g1, g2, g3, hx, c0, -⟩ := h.get hlt
   replace c0 := (hb.cell (p := ⟨b, off + k, none⟩) g3).trans c0;have hc := hcl.out x wr (List.mem_of_getElem? hx) hb;replace hx := hide hx;clear h hcl
   by_cases hg : G x = true
   ·rw [hg] at hc
    replace hc := hide hc;have hy : Hid (firstI G l k) := .inr ⟨k, rfl, by rw [hlen.out]; exact hlt, ha.out, x, hx.out, hg⟩;clear hg;go_wp2_with fail;refine hc.out.mono ?_;rintro e w1 ⟨rfl, hb1⟩;go_wp2_with fail;go_ret;exact ⟨_, rfl, hy.out, hb.trans (hb1.mono hb.size)⟩
   ·replace hg := Bool.eq_false_iff.2 hg
    rw [hg] at hc;replace hc := hide hc;have hy := hide (any_take_succ ha.out hx.out hg);clear hg;go_wp2_with fail;refine hc.out.mono ?_;rintro e w1 ⟨rfl, hb1⟩;go_wp2_with fail;go_roundw
    case rel => exact ⟨k + 1, by omega, by go_num, hb.trans (hb1.mono hb.size), hy⟩
    case measure => simp [intOf]; omega
  ·have hkn : k = n := by omega
   subst hkn;clear hcl h
   go_wp2
   go_ret;have hy := ha.out
   rw [List.take_of_length_le (by rw [hlen.out]; exact zR)] at hy;exact ⟨_, rfl, .inl ⟨rfl, hy⟩, hb⟩
structure DelI (G : Int → Bool) (l M : List Int) (k i : Nat) : Prop where
 len : M.length = l.length
 cnt : i = ((l.take k).filter fun x => !G x).length
 lt : i < k
 kept : M.take i = (l.take k).filter fun x => !G x
 later : ∀ q, k ≤ q → M[q]? = l[q]?
theorem DelI.start {G : Int → Bool} {l : List Int} {k : Nat} {x : Int} (hk : k < l.length) (ha : (l.take k).any G = false) (hx : l[k]? = some x) (hg : G x = true) : DelI G l l (k + 1) k := by
 have h1 : (l.take (k + 1)).filter (fun x => !G x) = l.take k := by
  rw [filter_step hx, hg];simp only [Bool.not_true, Bool.false_eq_true, if_false, List.append_nil];exact List.filter_eq_self.2 fun y hy => by rw [Bool.not_eq_true']; exact Bool.eq_false_iff.2 fun c => by rw [List.any_eq_false] at ha; exact ha y hy c
 exact ⟨rfl, by rw [h1, List.length_take]; omega, Nat.lt_succ_self _, by rw [h1], fun _ _ => rfl⟩
theorem DelI.skip {G : Int → Bool} {l M : List Int} {k i : Nat} {x : Int} (h : DelI G l M k i) (hx : l[k]? = some x) (hg : G x = true) : DelI G l M (k + 1) i := by
 have h1 : (l.take (k + 1)).filter (fun x => !G x) = (l.take k).filter (fun x => !G x) := by rw [filter_step hx, hg]; simp
 exact ⟨h.len, by rw [h1]; exact h.cnt, by have := h.lt; omega, by rw [h1]; exact h.kept, fun q hq => h.later q (by omega)⟩
theorem DelI.put {G : Int → Bool} {l M : List Int} {k i : Nat} {x : Int} (h : DelI G l M k i) (hx : l[k]? = some x) (hg : G x = false) : DelI G l (M.set i x) (k + 1) (i + 1) := by
 have h1 : (l.take (k + 1)).filter (fun x => !G x) = (l.take k).filter (fun x => !G x) ++ [x] := by rw [filter_step hx, hg]; simp
 have hk : k < l.length := (List.getElem?_eq_some_iff.1 hx).1;have hil : i < M.length := by rw [h.len]; have := h.lt; omega
 refine ⟨by rw [List.length_set]; exact h.len, by rw [h1, List.length_append, ← h.cnt]; rfl, by have := h.lt; omega, ?_, fun q hq => ?_⟩
 ·rw [List.take_add_one, List.getElem?_set_self hil, h1, ← h.kept, List.take_set_of_le zR]
  rfl
 ·rw [List.getElem?_set_ne (by have := h.lt; omega)]
  exact h.later q (by omega)
theorem zero_int (w : World) : (zeroValue 2).run Tryz.prog w = .ok (.int .i64 0) w := by
 obtain ⟨i0, hi0, hz0, _⟩ := info_parts info_int64
 simp [zeroValue, typeInfo, hi0, hz0]
theorem deleteFuncI_calls (F : FuncId) (caps : Array Value) (G : Int → Bool) (A : Option Addr) (n c : Nat) (l : List Int) (w : World) (lo : Nat) (h : SlI w lo w.heap.size A n l) (hc : n ≤ c) (hn : n ≤ 1048576) (hlo : lo ≤ w.heap.size)
  (hF : ∀ (v : Value) (W : World), Sem.run Tryz.prog (callFunc F (#[v] ++ caps)) W = .ok (.enter F (#[v] ++ caps)) W)
  (hcl : ∀ (v : Int) (W : World), v ∈ l → Below lo w W → Calls Tryz.prog F (#[.int .i64 v] ++ caps) W (Says (G v) W)) :
  Calls Tryz.prog 126 #[.slice A n c, .func (.func F) #[] caps] w fun e w' => ∃ m c', e = .returned (.slice A m c') ∧ m ≤ n ∧ m ≤ c' ∧ SlI w' lo w'.heap.size A m (l.filter fun x => !G x) ∧ Below lo w w' := by
 have hlen := hide h.len;have q := hide (indexFuncI2_calls F caps G A n c l w lo _ h hn hF (fun v W hv hW => hcl v W hv (hW.mono hlo)));replace h := hide h;replace hcl := hide hcl;go_enter Tryz.func126, Tryz.ntmps126;go_wp2_with fail;refine q.out.mono ?_;rintro e w1 ⟨i, rfl, hfi, hb1⟩;have hbl := hb1.mono hlo;have h1 := hide ((h.out.below hb1 (.inr zR)).top);clear q
 rcases hfi with ⟨rfl, hno⟩ | ⟨k0, rfl, hk0, hno, x0, hx0, hg0⟩
 ·have hfl : Hid (l.filter (fun x => !G x) = l) := List.filter_eq_self.2 fun y hy => by rw [Bool.not_eq_true']; exact Bool.eq_false_iff.2 fun c => by rw [List.any_eq_false] at hno; exact hno y hy c
  clear hcl h hno;go_wp2_with fail;go_ret;exact ⟨n, _, rfl, zR, hc, by rw [hfl.out]; exact h1.out, hbl⟩
 ·rw [hlen.out] at hk0
  obtain ⟨b, off, y0, rfl, g1, g2, g3, -⟩ := h.out.get hk0;have hst := hide (DelI.start (by rw [hlen.out]; exact hk0) hno hx0 hg0);have hne : ((k0 : Int) == -1) = false := by rw [beq_eq_false_iff_ne]; omega
  clear hno hx0 hg0 h;go_wp2_with fail
  go_loopw [5, 6] (fun iv' jv wr => ∃ (k i : Nat) (M : List Int), k ≤ n ∧ jv = .int .i64 k ∧ iv' = .int .i64 i ∧ Hid (DelI G l M k i) ∧ Hid (SlI wr lo wr.heap.size (some ⟨b, off, none⟩) n M) ∧ Hid (Below lo w wr)) (fun _ jv _ => n - (intOf jv).toNat)
  case atStart => exact ⟨k0 + 1, k0, l, by omega, by go_num, rfl, hst, h1, hbl⟩
  case round =>
   obtain ⟨k, i, M, hk, rfl, rfl, hD, hM, hb⟩ := hrel;clear h1 hst;have hik := hD.out.lt
   by_cases hlt : k < n
   ·obtain ⟨b', o', x, e', -, -, g3', hx, c0, -⟩ := hM.out.get hlt
    cases e'
    rw [hD.out.later k zR] at hx;have hcx := hcl.out x wr (List.mem_of_getElem? hx) hb.out;have hzw := hb.out.size
    by_cases hg : G x = true
    ·rw [hg] at hcx
     replace hcx := hide hcx;have hD2 := hide (hD.out.skip hx hg);clear hcl hx hg;go_wp2_with fail;refine hcx.out.mono ?_;rintro e w2 ⟨rfl, hb2⟩;have hM2 := hide ((hM.out.below hb2 (.inr zR)).top);have hb3 := hide (hb.out.trans (hb2.mono (Nat.le_trans hlo hzw)));clear hb2 c0;go_wp2_with fail;go_roundw
     case rel => exact ⟨k + 1, i, M, by omega, by go_num, rfl, hD2, hM2, hb3⟩
     case measure => simp [intOf]; omega
    ·replace hg := Bool.eq_false_iff.2 hg
     rw [hg] at hcx;replace hcx := hide hcx;have hD2 := hide (hD.out.put hx hg);clear hcl hx hg;go_wp2_with fail;refine hcx.out.mono ?_;rintro e w2 ⟨rfl, hb2⟩;have hM2 := (hM.out.below hb2 (.inr zR)).top;have hM3 := hide (SlI.put' hM2 (show i < n by omega) x);obtain ⟨b', o', xx, e', -, -, -, -, d0, z0⟩ := SlI.get hM2 (show i < n by omega)
     cases e'
     have hb3 := hide ((hb.out.trans (hb2.mono (Nat.le_trans hlo hzw))).setCell (p := ⟨b, off + i, none⟩) g1 (.int .i64 x));clear hb2 c0 hM2;have i1 : (0 : Int) ≤ (i : Int) := by omega
     have i2 : (i : Int) < (n : Int) := by omega
     go_wp2_with fail;go_roundw
     case rel => exact ⟨k + 1, i + 1, _, by omega, by go_num, by go_num, hD2, by show SlI _ _ _ _ _ _; rw [World.size_setCell]; exact hM3.out, hb3⟩
     case measure => simp [intOf]; omega
   ·have hkn : k = n := by omega
    subst hkn;clear hcl;have hkept := hD.out.kept;have hcnt := hD.out.cnt;have htk : l.take k = l := List.take_of_length_le (by rw [hlen.out]; exact zR);rw [htk] at hkept hcnt;have hcut : ∀ W : World, (Instr.slice 32 (.slice (some ⟨b, off, none⟩) k c) (some (.int .i64 (i : Int))) none none).run Tryz.prog W = .ok (.slice (some ⟨b, off + i, none⟩) (k - i) (c - i)) W := fun W => by
     rw [run_cut elem_int64 (some ⟨b, off, none⟩) k c i (by omega) W];unfold cutA;rw [if_neg (by omega), Option.map_some, addr_add, Nat.mul_one]
    have hhead : ∀ W : World, (Instr.slice 32 (.slice (some ⟨b, off, none⟩) k c) none (some (.int .i64 (i : Int))) none).run Tryz.prog W = .ok (.slice (some ⟨b, off, none⟩) i c) W := fun W => run_head elem_int64 (some ⟨b, off, none⟩) k c i (by omega) W
    have hcl : ∀ ty : TypeId, (Builtin.clear_ #[32] ty #[.slice (some ⟨b, off + i, none⟩) (k - i) (c - i)]).run Tryz.prog wr = .ok (.tuple #[]) (wr.setCells b (off + i) (List.replicate (k - i) (.int .i64 0))) := fun ty =>
     Lib.run_clear_slice wr 32 2 ty (.int .i64 0) Tryz.underlying32 zero_int rfl rfl b (off + i) (k - i) (c - i) (by omega) (fun j hj => by
      obtain ⟨b', o', xx, e', -, -, -, -, d0, -⟩ := hM.out.get (show i + j < k by omega)
      cases e'
      rw [show off + i + j = off + (i + j) by omega, d0]; rfl) (fun j hj => by
      obtain ⟨b', o', xx, e', -, -, -, -, -, z0⟩ := hM.out.get (show i + j < k by omega)
      cases e'
      rw [show off + i + j = off + (i + j) by omega]; exact z0)
    have hres : Hid (SlI (wr.setCells b (off + i) (List.replicate (k - i) (.int .i64 0))) lo (wr.setCells b (off + i) (List.replicate (k - i) (.int .i64 0))).heap.size (some ⟨b, off, none⟩) i (l.filter fun x => !G x)) := by
     refine ⟨hcnt.symm, fun hi0 => ?_⟩;obtain ⟨b', o', e', q1, q2, q3, q4⟩ := hM.out.at_ (show 0 < k by omega)
     cases e'
     refine ⟨b, off, rfl, q1, by rw [size_cells]; exact q3, by rw [size_cells]; exact q3, fun j x hx u v hv => ?_⟩;rw [← hkept, List.getElem?_take] at hx
     split at hx
     ·obtain ⟨r1, r2⟩ := q4 j x hx u v hv
      have hu : u = 0 := by
       have := (List.getElem?_eq_some_iff.1 hv).1
       simp [iv] at this
       exact this
      subst hu;exact ⟨(World.cell?_setCells_out b _ _ _ _ (fun _ _ => by left; show off + (j * 1 + 0) < off + i; omega)).trans r1, (World.frozen?_setCells b _ _ _ _).trans r2⟩
     ·cases hx
    have hbF : Hid (Below lo w (wr.setCells b (off + i) (List.replicate (k - i) (.int .i64 0)))) := below_cells g1 _ _ _ hb.out;clear hkept hcnt;go_wp2_with fail;go_ret;exact ⟨i, _, rfl, by omega, by omega, hres.out, hbF.out⟩
open Go.Sort
def numBR (s : List Bool) : Nat := (s.filter id).length
theorem numBR_set {s : List Bool} : ∀ {v : Nat}, v < s.length → inS s v = false → numBR (s.set v true) = numBR s + 1 := by
 induction s with
 | nil => intro v h; simp at h
 | cons b s ih =>
  intro v hv h
  cases v with
  | zero =>
   have hb : b = false := by simpa [inS] using h
   subst hb
   simp [numBR]
  | succ v =>
   have h1 := ih (v := v) (by simpa using hv) (by simpa [inS] using h);unfold numBR at h1 ⊢
   cases b <;> simp [List.filter_cons] at h1 ⊢ <;> omega
def ReachE (es : List Ed) (ini : Int) (k : Nat) : Prop := ∃ m, lay (srcE [ini]) (arcE true es) m k
noncomputable def reachB (es : List Ed) (ini : Int) (k : Nat) : Bool := open Classical in decide (ReachE es ini k)
theorem reachB_true {es : List Ed} {ini : Int} {k : Nat} : reachB es ini k = true ↔ ReachE es ini k := by
 unfold reachB
 simp
noncomputable def reachF (N : Nat) (es : List Ed) (ini : Int) : List Int := ((List.range N).filter (reachB es ini)).map Int.ofNat
theorem ReachE.step {es : List Ed} {ini : Int} {a k : Nat} (h : ReachE es ini a) (ha : arcE true es a k) : ReachE es ini k := by
 obtain ⟨m, hm⟩ := h;exact ⟨m + 1, .inr ⟨a, hm, ha⟩⟩
structure SeenR (N : Nat) (es : List Ed) (ini : Nat) (old : List Bool) (j : Nat) (mo : Bool) (s : List Bool) : Prop where
 len : s.length = N
 start : inS s ini = true
 sound : ∀ k, inS s k = true → ReachE es (ini : Int) k
 same : mo = false → s = old
 more : mo = true → numBR old < numBR s
 grow : numBR old ≤ numBR s
 closed : mo = false → ∀ e ∈ es.take j, ∀ a k : Nat, e.1 = (a : Int) → e.2.2 = (k : Int) → inS s a = true → inS s k = true
theorem take_mem_succ {α : Type} {l : List α} {j : Nat} {e x : α} (hx : l[j]? = some e) (h : x ∈ l.take (j + 1)) : x ∈ l.take j ∨ x = e := by
 rw [List.take_add_one, hx, List.mem_append] at h
 rcases h with h | h
 ·exact .inl h
 ·simp at h; exact .inr h
theorem SeenR.skip {N : Nat} {es : List Ed} {ini : Nat} {old s : List Bool} {j : Nat} {mo : Bool} {f tg : Nat} {lb : Int} (h : SeenR N es ini old j mo s) (hx : es[j]? = some ((f : Int), lb, (tg : Int))) (hs : inS s f = true → inS s tg = true) : SeenR N es ini old (j + 1) mo s :=
 ⟨h.len, h.start, h.sound, h.same, h.more, h.grow, fun hm e he a k h1 h2 h3 => by
  rcases take_mem_succ hx he with h4 | rfl
  ·exact h.closed hm e h4 a k h1 h2 h3
  ·have : f = a := by dsimp only at h1; omega
   have : tg = k := by dsimp only at h2; omega
   subst_vars
   exact hs h3⟩
theorem SlB.cell' {w : World} {lo hi n b off : Nat} {l : List Bool} (h : SlB w lo hi (some ⟨b, off, none⟩) n l) {k : Nat} (hk : k < n) : w.cell? ⟨b, off + k, none⟩ = some (.bool (inS l k)) ∧ w.frozen? ⟨b, off + k, none⟩ = false ∧ lo ≤ b ∧ b < hi ∧ b < w.heap.size := by
 obtain ⟨b', off', e, g1, g2, g3, -, h1, h2⟩ := h.get hk
 cases e
 exact ⟨h1, h2, g1, g2, g3⟩
theorem range_succ_int (k : Nat) : (List.range (k + 1)).map Int.ofNat = (List.range k).map Int.ofNat ++ [(k : Int)] := by
 rw [List.range_succ, List.map_append]
 rfl
theorem upTo_calls (N : Nat) (hN : N ≤ 1048000) (w : World) :
  Calls Tryz.prog 127 #[.int .i64 (N : Int)] w fun e w' => ∃ A c, e = .returned (.slice A N c) ∧ Own 1 iv w' w.heap.size 2 A N c ((List.range N).map Int.ofNat) ∧ Below w.heap.size w w' := by
 have hE := hide elem_int64;go_enter Tryz.func127, Tryz.ntmps127
 go_wp2
 go_loopw [3, 6] (fun v i wr => ∃ (k : Nat) (A : Option Addr) (c : Nat), k ≤ N ∧ i = .int .i64 (k : Nat) ∧ v = .slice A k c ∧ Hid (Own 1 iv wr w.heap.size 2 A k c ((List.range k).map Int.ofNat)) ∧ Below w.heap.size w wr) (fun _ i _ => N - (intOf i).toNat)
 case atStart => exact ⟨0, none, 0, Nat.zero_le _, rfl, rfl, Own.nil_ _ _ _, bR⟩
 case round =>
  obtain ⟨k, A, c, hk, rfl, rfl, hown, hb⟩ := hrel
  by_cases hlt : k < N
  ·have hz := hb.size
   have hza : ∀ o, w.heap.size ≤ (wr.alloc o).heap.size := fun o => by rw [World.size_alloc]; omega
   have hst := hide (range_succ_int k);replace hb := hide hb;go_wp2_with (first | (at_builtin; (with_reducible refine wpList_app rfl (.tmp 9) (.tmp 11) rfl hE.out flat_iv rfl (hown.out.alloc _) rfl (Sl.lit1' wr 2 (k : Int) _ rfl 1 _ ?c0) ?c1 (hza _) ?_); rotate_right; intro A5 c5 w5 hown5 hgr5 hb5 _))
   case c0 => rfl
   case c1 => omega
   have hb6 := hide ((hb.out.alloc hz (.cells #[.int .i64 (k : Int)] 2)).trans hb5);go_roundw
   case rel => exact ⟨k + 1, A5, c5, by omega, by go_num, rfl, by rw [hst.out]; exact hown5, hb6.out⟩
   case measure => simp [intOf]; omega
  ·have hkn : k = N := by omega
   subst hkn;replace hb := hide hb
   go_wp2
   go_ret;exact ⟨A, c, rfl, hown.out, hb.out⟩
def atI (l : List Int) (v : Int) : Int := (l[v.toNat]?).getD 0
theorem atI_get {l : List Int} {k : Nat} {x : Int} (h : l[k]? = some x) : atI l (k : Int) = x := by
 unfold atI;rw [Int.toNat_natCast, h]
 rfl
theorem dist_reach {N : Nat} {es : List Ed} {ini : Int} {far : List Int} (h : DistIs (srcE [ini]) (arcE true es) N far) {k : Nat} (hk : k < N) : (!(decide (atI far (k : Int) < 0))) = reachB es ini k := by
 have hx : far[k]? = some (far[k]'(by rw [h.1]; exact hk)) := List.getElem?_eq_getElem _;rw [atI_get hx];generalize far[k]'(by rw [h.1]; exact hk) = x at *;obtain ⟨h1, h2⟩ := h.2 k x hx
 by_cases h0 : x < 0
 ·rw [decide_eq_true h0]
  cases e : reachB es ini k with
  | false => rfl
  | true =>
   obtain ⟨m, hm⟩ := reachB_true.1 e;exact absurd hm ((h2 h0).2 m)
 ·rw [decide_eq_false h0]
  exact (reachB_true.2 ⟨_, (h1 (by omega)).1⟩).symm
theorem filter_reach {N : Nat} {es : List Ed} {ini : Int} {far : List Int} (h : DistIs (srcE [ini]) (arcE true es) N far) : (((List.range N).map Int.ofNat).filter fun v => !(decide (atI far v < 0))) = reachF N es ini := by
 unfold reachF;rw [List.filter_map]
 congr 1
 apply List.filter_congr
 intro k hk;exact dist_reach h (List.mem_range.1 hk)
theorem reach1_calls (b : Nat) (A : Option Addr) (n c : Nat) (far : List Int) (v : Int) (W : World) (lo hi : Nat) (hb : W.cell? ⟨b, 0, none⟩ = some (.slice A n c)) (h : SlI W lo hi A n far) (h0 : 0 ≤ v) (h1 : v < (n : Int)) :
  Calls Tryz.prog 128 (#[.int .i64 v] ++ #[.pointer (some ⟨b, 0, none⟩)]) W (Says (decide (atI far v < 0)) W) := by
 obtain ⟨b', off, x, rfl, -, -, -, hx, c0, -⟩ := SlI.get h (show v.toNat < n by omega);have hv : Hid (atI far v = x) := by show _ = _; unfold atI; rw [hx]; rfl
 clear hx h;go_enter Tryz.func128, Tryz.ntmps128;go_wp2_with fail;go_ret;exact ⟨ret_b (by rw [hv.out]), bR⟩
theorem reachable_calls (N ini : Nat) (v2 : Value) (A3 : Option Addr) (n3 k3 : Nat) (es : List Ed) (w : World) (lo hi : Nat)
  (t3 : SlE w lo hi A3 n3 es) (hes : n3 ≤ 1048576) (hN1 : 1 ≤ N) (hN2 : N ≤ 40) (hini : ini < N) (hv2 : ∃ A n k, v2 = .slice A n k)
  (hedge : ∀ e ∈ es, (0 ≤ e.1 ∧ e.1 < (N : Int)) ∧ (0 ≤ e.2.2 ∧ e.2.2 < (N : Int))) :
  Calls Tryz.prog 58 #[.agg #[.int .i64 (N : Int), .int .i64 (ini : Int), v2, .slice A3 n3 k3]] w fun e w' => ∃ A m c, e = .returned (.slice A m c) ∧ SlI w' w.heap.size w'.heap.size A m (reachF N es (ini : Int)) ∧ m ≤ 40 ∧ m ≤ c ∧ Below w.heap.size w w' := by
 obtain ⟨A2, n2, k2, rfl⟩ := hv2;have hb0 : Below w.heap.size w (w.alloc (.cells #[.int .i64 (N : Int), .int .i64 (ini : Int), .slice A2 n2 k2, .slice A3 n3 k3] 27)) := bR.alloc zR _;have kE := heap_alloc_new w (.cells #[.int .i64 (N : Int), .int .i64 (ini : Int), .slice A2 n2 k2, .slice A3 n3 k3] 27);have hz : w.heap.size < (w.alloc (.cells #[.int .i64 (N : Int), .int .i64 (ini : Int), .slice A2 n2 k2, .slice A3 n3 k3] 27)).heap.size := by rw [World.size_alloc]; omega
 replace t3 := t3.below hb0 (.inr zR);have hz' := Nat.le_of_lt hz;replace hb0 := hide hb0;go_enter Tryz.func58, Tryz.ntmps58;go_upto_region 1 with fail;generalize (w.alloc (.cells #[.int .i64 (N : Int), .int .i64 (ini : Int), .slice A2 n2 k2, .slice A3 n3 k3] 27)) = W0 at *;generalize hbm : w.heap.size = bm at *;have c0 : W0.cell? ⟨bm, 0, none⟩ = some (.int .i64 (N : Int)) := cR 0 kE;have c1 : W0.cell? ⟨bm, 1, none⟩ = some (.int .i64 (ini : Int)) := cR 1 kE;have c2 : W0.cell? ⟨bm, 2, none⟩ = some (.slice A2 n2 k2) := cR 2 kE;have c3 : W0.cell? ⟨bm, 3, none⟩ = some (.slice A3 n3 k3) := cR 3 kE;have hbl : Below W0.heap.size W0 (W0.alloc (.cells #[.int .i64 (ini : Int)] 2)) := bR.alloc zR _;have q := hide (distancesF_calls N (ini : Int) (.slice A2 n2 k2) A3 n3 k3 (some ⟨W0.heap.size, 0, none⟩) 1 1 es [(ini : Int)] _ lo hi 0 _ (t3.below hbl (.inr zR)) (Sl.lit1' W0 2 (ini : Int) _ rfl 1 _ rfl) hes (by omega) hN1 hN2 hedge (fun v hv => by simp at hv; omega));have hblz := hbl.size;replace hbl := hide hbl;replace kE := hide kE;clear t3 hedge;go_wp2_with fail;refine q.out.mono ?_;rintro e w1 ⟨Af, cf, rfl, hf, hd, hb1⟩;have hbA := hbl.out.trans (hb1.mono hblz);have hzA := hbA.size;have hbox : Below w1.heap.size w1 (w1.alloc (.cells #[.slice Af N cf] 32)) := bR.alloc zR _;have kB := heap_alloc_new w1 (.cells #[.slice Af N cf] 32);have hbB := hbA.trans (hbox.mono hzA);have kE2 := (hbB.block _ hz).trans kE.out;have d0 : (w1.alloc (.cells #[.slice Af N cf] 32)).cell? ⟨bm, 0, none⟩ = some (.int .i64 (N : Int)) := cR 0 kE2;have q2 := hide (upTo_calls N (by omega) (w1.alloc (.cells #[.slice Af N cf] 32)));have hfB := Sl.below hf hbox (.inr zR);have hbs : w1.heap.size < (w1.alloc (.cells #[.slice Af N cf] 32)).heap.size := by rw [World.size_alloc]; omega
 have hdr := hide (filter_reach hd);replace hbB := hide hbB;replace kB := hide kB;clear kE kE2 q hf hbox hbA c0 c1 c2 c3;go_upto_region 2 with fail;generalize (w1.alloc (.cells #[.slice Af N cf] 32)) = WB at *;generalize w1.heap.size = bb at *;go_wp2_with fail;refine q2.out.mono ?_;rintro e w2 ⟨A, c, rfl, hown, hb2⟩;have hsl := hown.sl flat_iv;have hcap := hown.cap;have hmem : ∀ v ∈ (List.range N).map Int.ofNat, 0 ≤ v ∧ v < (N : Int) := fun v hv => by
  obtain ⟨k, hk, rfl⟩ := List.mem_map.1 hv;have := List.mem_range.1 hk;exact ⟨Int.natCast_nonneg _, by show (k : Int) < _; omega⟩
 have q3 := hide (deleteFuncI_calls 128 #[.pointer (some ⟨bb, 0, none⟩)] (fun v => decide (atI (distF true N es [(ini : Int)]) v < 0)) A N c _ w2 WB.heap.size hsl hcap (by omega) hb2.size (fun v W => by kernel_rfl) (fun v W hv hW => by
  obtain ⟨h0, h1⟩ := hmem v hv;have hW2 := hb2.trans hW;exact reach1_calls bb Af N cf _ v W _ _ ((hW2.cell (p := ⟨bb, 0, none⟩) hbs).trans (cR 0 kB.out)) (Sl.below hfB hW2 (.inl (by omega))) h0 h1))
 replace hb2 := hide hb2;clear hsl hmem hown hfB kB d0;go_wp2_with fail;refine q3.out.mono ?_;rintro e w3 ⟨m, c', rfl, hmn, hmc, hres, hb3⟩;have hbw := hide (hbB.out.trans ((hb2.out.trans hb3).mono hbB.out.size));have hres2 := hide hres;clear hb3 hres;go_wp2_with fail;go_ret;have hr := hres2.out.more (show bm ≤ WB.heap.size by have := hbB.out.size; omega) zR;rw [hdr.out] at hr;exact ⟨A, m, c', rfl, by first | exact hr | (rw [hbm]; exact hr), by omega, hmc, by first | exact hb0.out.trans (hbw.out.mono hz') | (rw [hbm]; exact hb0.out.trans (hbw.out.mono hz'))⟩
end Go.Proofs.YtnhomkmfbngmgaaGreatDoor
namespace Go.Proofs.YtnhomkmfbngmgaaGreatDoor
open Go.ChangeShapes Go.WideShapes Go.ChangeAt Go.RowKit
def FstI (l : List Int) (v i : Int) : Prop := (i = -1 ∧ v ∉ l) ∨ ∃ k : Nat, i = k ∧ k < l.length ∧ l[k]? = some v
theorem indexX_calls (v : Int) (A : Option Addr) (n c : Nat) (l : List Int) (w : World) (lo hi : Nat) (h : SlI w lo hi A n l) (hn : n ≤ 1048576) :
  Calls Tryz.prog 130 #[.slice A n c, .int .i64 v] w fun e w' => ∃ i : Int, e = .returned (.int .i64 i) ∧ FstI l v i ∧ w = w' := by
 have hlen := hide h.len;go_enter Tryz.func130, Tryz.ntmps130
 go_wp2
 go_loop [8] (fun i => ∃ k : Nat, k ≤ n ∧ i = .int .i64 k ∧ Hid (v ∉ l.take k)) (fun i => n - (intOf i).toNat)
 case atStart => exact ⟨0, Nat.zero_le _, rfl, by rw [List.take_zero]; exact List.not_mem_nil⟩
 case round =>
  obtain ⟨k, hk, rfl, ha⟩ := hrel
  by_cases hlt : k < n
  ·obtain ⟨b, off, x, rfl, g1, g2, g3, hx, c0, -⟩ := SlI.get h hlt
   clear h;have hx2 := hide hx
   by_cases hq : x = v
   ·subst hq
    clear hx
    go_wp2
    go_ret;exact ⟨_, rfl, .inr ⟨k, rfl, (List.getElem?_eq_some_iff.1 hx2.out).1, hx2.out⟩, rfl⟩
   ·have hy : Hid (v ∉ l.take (k + 1)) := by
     show ¬ _
     rw [List.take_add_one, hx, List.mem_append];rintro (h1 | h1)
     ·exact ha.out h1
     ·exact hq (List.mem_singleton.1 h1).symm
    have hne : (v == x) = false := by rw [beq_eq_false_iff_ne]; exact fun e => hq e.symm
    clear hx hq
    go_wp2
    go_round
    case rel => exact ⟨k + 1, by omega, by go_num, hy⟩
    case measure => simp [intOf]; omega
  ·have hkn : k = n := by omega
   subst hkn;clear h
   go_wp2
   go_ret;have hy := ha.out
   rw [List.take_of_length_le (by rw [hlen.out]; exact zR)] at hy;exact ⟨_, rfl, .inl ⟨rfl, hy⟩, rfl⟩
open Go.Lib Go.Sort
structure AlcW (wb w : World) (J : List ByteArray) (g : Option Nat) (q : Option (Option Addr × Nat × Nat)) : Prop where
 below : Below wb.heap.size wb w
 box : ∀ b, g = some b → wb.heap.size ≤ b ∧ LtsBox w b 0 0 none 0 0 none 0 0
 lab : ∀ h, q = some h → Own 1 strv w wb.heap.size 9 h.1 h.2.1 h.2.2 J ∧ ∀ b, g = some b → some b ≠ (Value.slice h.1 h.2.1 h.2.2).ownBlock
section
variable {wb w w' : World} {J : List ByteArray} {g : Option Nat} {q : Option (Option Addr × Nat × Nat)}
theorem AlcW.start (wb : World) (J : List ByteArray) : AlcW wb wb J none none := ⟨bR, fun b e => (by cases e), fun h e => (by cases e)⟩
theorem AlcW.drew (h : AlcW wb w J g q) : AlcW wb w.drew J g q := ⟨h.below.drew, h.box, fun k e => ⟨(h.lab k e).1.keep fun _ _ => rfl, (h.lab k e).2⟩⟩
theorem AlcW.alloc (h : AlcW wb w J none q) : AlcW wb (w.alloc (.cells #[.int .i64 0, .int .i64 0, .slice none 0 0, .slice none 0 0] 27)) J (some w.heap.size) q where
 below := h.below.alloc h.below.size _
 box := fun b e => by
  cases e
  exact ⟨h.below.size, heap_alloc_new w _⟩
 lab := fun k e => ⟨(h.lab k e).1.alloc _, fun b e2 e3 => by
  cases e2;have := ((h.lab k e).1.lt _ e3.symm).2
  omega⟩
theorem AlcW.clone (h : AlcW wb w J g none) {A : Option Addr} {n c : Nat} (hb : Below w.heap.size w w') (ho : Own 1 strv w' w.heap.size 9 A n c J) : AlcW wb w' J g (some (A, n, c)) where
 below := h.below.trans (hb.mono h.below.size)
 box := fun b e => ⟨(h.box b e).1, (h.box b e).2.below hb (h.box b e).2.lt⟩
 lab := fun k e => by
  cases e
  refine ⟨ho.sink h.below.size, fun b e2 e3 => ?_⟩;have h1 := (h.box b e2).2.lt;have h2 := (ho.lt _ e3.symm).1;omega
theorem AlcW.keep (h : AlcW wb w J g q) (hb : Below w.heap.size w w') : AlcW wb w' J g q where
 below := h.below.trans (hb.mono h.below.size)
 box := fun b e => ⟨(h.box b e).1, (h.box b e).2.below hb (h.box b e).2.lt⟩
 lab := fun k e => ⟨(h.lab k e).1.below hb zR, (h.lab k e).2⟩
end
structure LtmP (w wr : World) (g9 e0 : Nat) (s i : Int) (A1 : Option Addr) (n2 c1 : Nat) (J : List ByteArray) (A3 : Option Addr) (k c3 : Nat) (E : List Ed) : Prop where
 box : LtsBox wr g9 s i A1 n2 c1 A3 k c3
 res : LtsBox wr w.heap.size 0 0 none 0 0 none 0 0
 labs : Own 1 strv wr (w.heap.size + 1) 9 A1 n2 c1 J
 eds : Own 3 ev wr e0 84 A3 k c3 E
 bel : Below w.heap.size w wr
 base : w.heap.size < g9 ∧ g9 < e0
 lt : ∀ q, (Value.slice A1 n2 c1).ownBlock = some q → q ≠ g9 ∧ q < e0
 top : e0 ≤ wr.heap.size
section
variable {w wr w' : World} {g9 e0 : Nat} {s i : Int} {A1 : Option Addr} {n2 c1 : Nat} {J : List ByteArray} {A3 : Option Addr} {k c3 : Nat} {E : List Ed}
theorem LtmP.below (h : LtmP w wr g9 e0 s i A1 n2 c1 J A3 k c3 E) (hb : Below wr.heap.size wr w') : LtmP w w' g9 e0 s i A1 n2 c1 J A3 k c3 E where
 box := h.box.below hb h.box.lt
 res := h.res.below hb h.res.lt
 labs := h.labs.below hb zR
 eds := h.eds.below hb zR
 bel := h.bel.trans (hb.mono h.bel.size)
 base := h.base
 lt := h.lt
 top := Nat.le_trans h.top hb.size
theorem LtmP.same (h : LtmP w wr g9 e0 s i A1 n2 c1 J A3 k c3 E) {E' : List Ed} (hg : wr.grownBy w' (Value.slice A3 k c3).ownBlock) (ho : Own 3 ev w' e0 84 A3 k c3 E') : LtmP w w' g9 e0 s i A1 n2 c1 J A3 k c3 E' := by
 have hb0 := h.base;have ha : ∀ q, q < e0 → some q ≠ (Value.slice A3 k c3).ownBlock := fun q hq e => by
  have := (h.eds.lt q e.symm).1;omega
 exact ⟨h.box.grown hg (ha _ (by omega)), h.res.grown hg (ha _ (by omega)), h.labs.keep fun q hq => hg.block q (h.labs.lt q hq).2 (ha q (h.lt q hq).2), ho, h.bel.grown hg h.bel.size fun q e => by have := (h.eds.lt q e).1; omega, hb0, h.lt, Nat.le_trans h.top hg.size⟩
theorem LtmP.grown (h : LtmP w wr g9 e0 s i A1 n2 c1 J A3 k c3 E) {A7 : Option Addr} {k7 c7 : Nat} {E' : List Ed} (hg : wr.grownBy w' (Value.slice A3 k c3).ownBlock) (ho : Own 3 ev w' e0 84 A7 k7 c7 E') : LtsBox w' g9 s i A1 n2 c1 A3 k c3 ∧ LtmP w (w'.setCell ⟨g9, 3, none⟩ (.slice A7 k7 c7)) g9 e0 s i A1 n2 c1 J A7 k7 c7 E' := by
 have hb0 := h.base;have ha : ∀ q, q < e0 → some q ≠ (Value.slice A3 k c3).ownBlock := fun q hq e => by
  have := (h.eds.lt q e.symm).1;omega
 have hbx := h.box.grown hg (ha _ (by omega));have hrs := h.res.grown hg (ha _ (by omega));have hO : Only g9 (g9 + 1) w' (w'.setCell ⟨g9, 3, none⟩ (.slice A7 k7 c7)) := (Only.refl g9 (g9 + 1) w').setCell (p := ⟨g9, 3, none⟩) zR (Nat.lt_succ_self _) _;have hbel : Below w.heap.size w w' := h.bel.grown hg h.bel.size fun q e => by have := (h.eds.lt q e).1; omega
 refine ⟨hbx, hbx.set3, hrs.only hO (.inl (by omega)), ?_, ?_, Only.below hbel hO (by omega) hbel.size, hb0, h.lt, by rw [World.size_setCell]; exact Nat.le_trans h.top hg.size⟩
 ·have hl : Own 1 strv w' (w.heap.size + 1) 9 A1 n2 c1 J := h.labs.keep fun q hq => hg.block q (h.labs.lt q hq).2 (ha q (h.lt q hq).2)
  exact hl.asideL (fun e => (h.lt _ e.symm).1 rfl) _
 ·exact ho.asideL (fun e => by have := (ho.lt _ e.symm).1; omega) _
theorem LtmP.done (h : LtmP w wr g9 e0 s i A1 n2 c1 J A3 k c3 E) {wf : World} (a b c d : Value)
  (hw : wf = (((wr.setCell ⟨w.heap.size, 0, none⟩ a).setCell ⟨w.heap.size, 1, none⟩ b).setCell ⟨w.heap.size, 2, none⟩ c).setCell ⟨w.heap.size, 3, none⟩ d) :
  SlS wf w.heap.size wf.heap.size A1 n2 J ∧ Own 3 ev wf w.heap.size 84 A3 k c3 E ∧ Below w.heap.size w wf := by
 have hb0 := h.base;have n1 : some w.heap.size ≠ (Value.slice A1 n2 c1).ownBlock := fun e => by have := (h.labs.lt _ e.symm).1; omega
 have n3 : some w.heap.size ≠ (Value.slice A3 k c3).ownBlock := fun e => by have := (h.eds.lt _ e.symm).1; omega
 have o1 := (Only.refl w.heap.size (w.heap.size + 1) wr).setCell (p := ⟨w.heap.size, 0, none⟩) zR (Nat.lt_succ_self _) a;have o2 := o1.setCell (p := ⟨w.heap.size, 1, none⟩) zR (Nat.lt_succ_self _) b;have o3 := o2.setCell (p := ⟨w.heap.size, 2, none⟩) zR (Nat.lt_succ_self _) c;have o4 := o3.setCell (p := ⟨w.heap.size, 3, none⟩) zR (Nat.lt_succ_self _) d;rw [hw];refine ⟨?_, ?_, Only.below h.bel o4 zR h.bel.size⟩
 ·exact (((((h.labs.asideL n1 _).asideL n1 _).asideL n1 _).asideL n1 _).sl flat_strv).more (by omega) zR
 ·exact (((((h.eds.asideL n3 _).asideL n3 _).asideL n3 _).asideL n3 _)).sink (by omega)
theorem AlcW.fill {wb w1 : World} {A : Option Addr} {n c g : Nat} (h : AlcW wb w1 J (some g) (some (A, n, c))) (hr : LtsBox wb w.heap.size 0 0 none 0 0 none 0 0) (hw : w.heap.size + 1 ≤ wb.heap.size) (hbel : Below w.heap.size w wb) (s i : Int) {e0 : Nat} (he0 : e0 = w1.heap.size) :
  LtmP w ((((w1.setCell ⟨g, 0, none⟩ (.int .i64 s)).setCell ⟨g, 1, none⟩ (.int .i64 i)).setCell ⟨g, 2, none⟩ (.slice A n c)).setCell ⟨g, 3, none⟩ (.slice none 0 0)) g e0 s i A n c J none 0 0 [] := by
 obtain ⟨hg, hx⟩ := h.box g rfl;obtain ⟨hl, hne⟩ := h.lab _ rfl;have hne := hne g rfl;have hgl := hx.lt;have x0 : (w1.setCell ⟨g, 0, none⟩ (.int .i64 s)).heap[g]? = _ := heap_setCell_same w1 g 0 _ _ _ hx;have x1 := heap_setCell_same _ g 1 _ _ (.int .i64 i) x0;have x2 := heap_setCell_same _ g 2 _ _ (.slice A n c) x1;have x3 := heap_setCell_same _ g 3 _ _ (.slice none 0 0) x2;have o1 := (Only.refl g (g + 1) w1).setCell (p := ⟨g, 0, none⟩) zR (Nat.lt_succ_self _) (.int .i64 s);have o2 := o1.setCell (p := ⟨g, 1, none⟩) zR (Nat.lt_succ_self _) (.int .i64 i);have o3 := o2.setCell (p := ⟨g, 2, none⟩) zR (Nat.lt_succ_self _) (.slice A n c);have o4 := o3.setCell (p := ⟨g, 3, none⟩) zR (Nat.lt_succ_self _) (.slice none 0 0);have hbw : Below w.heap.size w w1 := hbel.trans (h.below.mono (by omega));exact ⟨x3, (hr.below h.below (by omega)).only o4 (.inl (by omega)), ((((hl.asideL hne _).asideL hne _).asideL hne _).asideL hne _).sink (by omega), Own.nil_ _ _ _, Only.below hbw o4 (by omega) hbw.size, ⟨by omega, by omega⟩, fun q hq => ⟨fun e => hne (by rw [← e]; exact hq.symm), by have := (hl.lt q hq).2; omega⟩, by simp [he0]⟩
end
def posZ (l : List Int) (v : Int) : Int := if v ∈ l then ((l.idxOf v : Nat) : Int) else -1
theorem FstI.pos {l : List Int} {v i : Int} (hn : l.Nodup) (h : FstI l v i) : i = posZ l v := by
 unfold posZ
 rcases h with ⟨rfl, h1⟩ | ⟨k, rfl, hk, hx⟩
 ·rw [if_neg h1]
 ·have hm := List.mem_of_getElem? hx
  rw [if_pos hm];have h2 : l.idxOf v < l.length := List.idxOf_lt_length_iff.2 hm;have h3 : l[l.idxOf v] = v := List.getElem_idxOf h2;have h4 : l[k] = v := by
   rw [List.getElem?_eq_getElem hk] at hx;exact Option.some.inj hx
  have := (List.getElem_inj hn).1 (h4.trans h3.symm);omega
theorem posZ_at {l : List Int} (hn : l.Nodup) {v : Int} {k : Nat} : posZ l v = (k : Int) ↔ l[k]? = some v := by
 unfold posZ
 constructor
 ·intro h
  by_cases hm : v ∈ l
  ·rw [if_pos hm] at h
   have h2 : l.idxOf v < l.length := List.idxOf_lt_length_iff.2 hm;have h3 : l[l.idxOf v] = v := List.getElem_idxOf h2;have : l.idxOf v = k := by omega
   subst this;rw [List.getElem?_eq_getElem h2, h3]
  ·rw [if_neg hm] at h
   omega
 ·intro hx
  have hm := List.mem_of_getElem? hx;rw [if_pos hm];have h2 : l.idxOf v < l.length := List.idxOf_lt_length_iff.2 hm;have h3 : l[l.idxOf v] = v := List.getElem_idxOf h2;obtain ⟨hk, h4⟩ := List.getElem?_eq_some_iff.1 hx;have := (List.getElem_inj hn).1 (h4.trans h3.symm);omega
def partO (S : List Int) (e : Ed) : Option Ed := if 0 ≤ posZ S e.1 ∧ 0 ≤ posZ S e.2.2 then some (posZ S e.1, e.2.1, posZ S e.2.2) else none
def partF (S : List Int) (es : List Ed) : List Ed := sortE (es.filterMap (partO S))
theorem part1_calls (v : Int) (b : Nat) (P : Option Addr) (q cP : Nat) (S : List Int) (W : World) (lo hi : Nat) (hb : W.cell? ⟨b, 0, none⟩ = some (.slice P q cP)) (h : SlI W lo hi P q S) (hq : q ≤ 1000) (hn : S.Nodup) :
  Calls Tryz.prog 129 (#[.int .i64 v] ++ #[.pointer (some ⟨b, 0, none⟩)]) W fun e w' => e = .returned (.int .i64 (posZ S v)) ∧ w' = W := by
 have hq1 := hide (indexX_calls v P q cP S W lo hi h (by omega));clear h;go_enter Tryz.func129, Tryz.ntmps129;go_wp2_with fail;refine hq1.out.mono ?_;rintro e w2 ⟨i, rfl, hi, rfl⟩;have hp := hide (hi.pos hn);clear hi hq1;go_wp2_with fail;go_ret;exact ⟨ret_i hp.out.symm, rfl⟩
theorem part_calls {w : World} {N ini : Nat} {A : Option Addr} {n : Nat} {B : Option Addr} {m : Nat} {ls : List ByteArray} {es : List Ed} (h : SysA w N ini A n B m ls es) (c d : Nat) (P : Option Addr) (q cP lo hi : Nat) (S : List Int) (hP : SlI w lo hi P q S) (hhi : hi ≤ w.heap.size) (hq : q ≤ 1000) (hn : S.Nodup) :
  Calls Tryz.prog 59 #[.agg #[.int .i64 (N : Int), .int .i64 (ini : Int), .slice A n c, .slice B m d], .slice P q cP] w fun e w' => ∃ A2 c2 A3 n3 c3, e = .returned (.agg #[.int .i64 (q : Int), .int .i64 (posZ S (ini : Int)), .slice A2 n c2, .slice A3 n3 c3]) ∧ SlS w' w.heap.size w'.heap.size A2 n ls ∧ SlE w' w.heap.size w'.heap.size A3 n3 (partF S es) ∧ Below w.heap.size w w' := by
 have hEe := hide elem_edge;obtain ⟨hm, hn12, hn1, hle, hll⟩ := h.many;obtain ⟨wB, hwB⟩ : ∃ wB, wB = (w.alloc (ltsC N ini A n c B m d)).alloc (.cells #[.slice P q cP] 32) := ⟨_, rfl⟩;have za : (w.alloc (ltsC N ini A n c B m d)).heap.size = w.heap.size + 1 := World.size_alloc _ _;have zB : wB.heap.size = w.heap.size + 1 + 1 := by rw [hwB, World.size_alloc, za]
 have bB : Below w.heap.size w wB := by rw [hwB]; exact ((Below.refl w.heap.size w).alloc zR _).alloc (by omega) _
 have xB : LtsBox wB w.heap.size (N : Int) (ini : Int) A n c B m d := by
  rw [hwB];have x1 : LtsBox (w.alloc (ltsC N ini A n c B m d)) w.heap.size (N : Int) (ini : Int) A n c B m d := heap_alloc_new w _;exact x1.below (K := w.heap.size + 1) (bR.alloc (by omega) _) (by omega)
 have sB : wB.heap[w.heap.size + 1]? = some (.cells #[.slice P q cP] 32 (0, 0)) := by rw [hwB, ← za]; exact heap_alloc_new _ _
 have sC : wB.cell? ⟨w.heap.size + 1, 0, none⟩ = some (.slice P q cP) := cR 0 sB;obtain ⟨w1, hw1⟩ : ∃ w1, w1 = wB.alloc (.cells #[.int .i64 0, .int .i64 0, .slice none 0 0, .slice none 0 0] 27) := ⟨_, rfl⟩;have hbel1 : Hid (Below wB.heap.size wB w1) := by show Below _ _ _; rw [hw1]; exact bR.alloc zR _
 have hr1 : Hid (LtsBox w1 wB.heap.size 0 0 none 0 0 none 0 0) := by show LtsBox _ _ _ _ _ _ _ _ _ _; rw [hw1]; exact heap_alloc_new wB _
 have hz1 : Hid (wB.heap.size + 1 ≤ w1.heap.size) := hr1.out.lt;have hAll : ∀ wx, Below wB.heap.size wB wx → SysA wx N ini A n B m ls es ∧ LtsBox wx w.heap.size (N : Int) (ini : Int) A n c B m d ∧ wx.cell? ⟨w.heap.size + 1, 0, none⟩ = some (.slice P q cP) ∧ SlI wx lo hi P q S := fun wx hx =>
  ⟨h.below (bB.trans (hx.mono bB.size)) zR, xB.below hx (by omega), (hx.cell (p := ⟨w.heap.size + 1, 0, none⟩) (by show w.heap.size + 1 < _; omega)).trans sC, hP.below (bB.trans (hx.mono bB.size)) (.inl hhi)⟩
 have hSS : Hid (∀ wx, Below w1.heap.size w1 wx → wx.cell? ⟨w.heap.size, 1, none⟩ = some (.int .i64 (ini : Int)) ∧ wx.cell? ⟨w.heap.size, 2, none⟩ = some (.slice A n c) ∧ wx.cell? ⟨w.heap.size + 1, 0, none⟩ = some (.slice P q cP)) := fun wx hx => by
  obtain ⟨-, y, z, -⟩ := hAll wx (hbel1.out.trans (hx.mono hbel1.out.size));exact ⟨y.c1, y.c2, z⟩
 have hPos : Hid (∀ wx, Below w1.heap.size w1 wx → Calls Tryz.prog 129 #[.int .i64 (ini : Int), .pointer (some ⟨w.heap.size + 1, 0, none⟩)] wx fun e w' => e = .returned (.int .i64 (posZ S (ini : Int))) ∧ w' = wx) := fun wx hx => by
  obtain ⟨-, -, z, y⟩ := hAll wx (hbel1.out.trans (hx.mono hbel1.out.size));exact part1_calls _ _ _ _ _ _ _ _ _ z y hq hn
 have hCl : Hid (∀ wx, Below w1.heap.size w1 wx → Calls Tryz.prog 131 #[.slice A n c] wx fun e w' => ∃ A' c', e = .returned (.slice A' n c') ∧ Own 1 strv w' wx.heap.size 9 A' n c' ls ∧ Below wx.heap.size wx w') := fun wx hx => by
  obtain ⟨y, -, -, -⟩ := hAll wx (hbel1.out.trans (hx.mono hbel1.out.size));exact cloneS_calls _ _ _ _ _ _ _ y.ss (by omega)
 replace hAll := hide hAll;replace zB := hide zB;replace za := hide za;have hbBh := hide bB;clear bB xB sB sC h hP;go_enter Tryz.func59, Tryz.ntmps59;go_upto_region 1 with fail;rw [show (((w.alloc (.cells #[.int .i64 (N : Int), .int .i64 (ini : Int), .slice A n c, .slice B m d] 27)).alloc (.cells #[.slice P q cP] 32)).alloc (.cells #[.int .i64 0, .int .i64 0, .slice none 0 0, .slice none 0 0] 27)) = w1 from by rw [hw1, hwB]];replace hw1 := hide hw1;replace hwB := hide hwB;go_upto_region 2 with fail
 go_cut [6] (fun v6 wx => ∃ g9 e0 A1 c1, v6 = .pointer (some ⟨g9, 0, none⟩) ∧ Hid (LtmP wB wx g9 e0 (q : Int) (posZ S (ini : Int)) A1 n c1 ls none 0 0 []))
 case first =>
  refine lateT_begin (S := fun w' => w'.cell? ⟨w.heap.size, 1, none⟩ = some (.int .i64 (ini : Int)) ∧ w'.cell? ⟨w.heap.size, 2, none⟩ = some (.slice A n c) ∧ w'.cell? ⟨w.heap.size + 1, 0, none⟩ = some (.slice P q cP)) (st := 11) (by kernel_rfl) ?_;have hD := (AlcW.start w1 ls).drew;generalize w1.drew = wA at *;have hS0 := hSS.out _ hD.below;refine tkA _ 0 [11] rfl (Or.inl ⟨by rfl, by intro w9 hSw; obtain ⟨s0, s1, s2⟩ := hSw; go_simp <;> with_reducible rfl⟩) hS0 ?_;refine tkA _ 2 [11] rfl (Or.inl ⟨by rfl, by intro w9 hSw; obtain ⟨s0, s1, s2⟩ := hSw; go_simp <;> with_reducible rfl⟩) hS0 ?_;refine tkA _ 3 [11] rfl (Or.inl ⟨by rfl, by intro w9 hSw; obtain ⟨s0, s1, s2⟩ := hSw; go_simp <;> with_reducible rfl⟩) hS0 ?_;refine tkA _ 4 [11] rfl (Or.inl ⟨by rfl, by intro w9 hSw; obtain ⟨s0, s1, s2⟩ := hSw; go_simp <;> with_reducible rfl⟩) hS0 ?_;refine tkA _ 6 [11] rfl (Or.inl ⟨by rfl, by intro w9 hSw; obtain ⟨s0, s1, s2⟩ := hSw; go_simp <;> with_reducible rfl⟩) hS0 ?_;refine tkA _ 7 [11] rfl (Or.inl ⟨by rfl, by intro w9 hSw; obtain ⟨s0, s1, s2⟩ := hSw; go_simp <;> with_reducible rfl⟩) hS0 ?_;refine tkA _ 1 [11] rfl (Or.inl ⟨by rfl, by intro w9 hSw; obtain ⟨s0, s1, s2⟩ := hSw; go_simp <;> with_reducible rfl⟩) hS0 ?_;refine lateT_two (i := 5) (j := 10) (by kernel_rfl) rfl rfl (fun K hK => ?_) (fun K hK => ?_)
  ·go_simp
   go_at_call 129; (with_reducible refine (hPos.out _ hD.below).mono ?_); rintro e w6 ⟨rfl, e6⟩; rw [e6]; clear e6 w6
   (try go_wp2_with fail)
   refine kP hK (fun _ => hSS.out _ hD.below) ?_;clear hK K;refine lateT_two (i := 8) (j := 10) (by kernel_rfl) rfl rfl (fun K hK => ?_) (fun K hK => ?_)
   ·go_simp
    go_at_call 131; (with_reducible refine (hCl.out _ hD.below).mono ?_); rintro e wA ⟨A1, c1, rfl, hO6, hb6⟩;replace hD := hD.clone hb6 hO6;clear hO6 hb6
    (try go_wp2_with fail)
    refine kP hK (fun _ => hSS.out _ hD.below) ?_;clear hK K;refine lateT_two (i := 9) (j := 10) (by kernel_rfl) rfl rfl (fun K hK => ?_) (fun K hK => ?_)
    ·go_simp
     refine kP hK (fun _ => hSS.out _ hD.below) ?_;clear hK K;refine lS 10 fun K hK => ?_
     go_simp;replace hD := hD.alloc
     refine kP hK (fun _ => hSS.out _ hD.below) ?_;clear hK K;generalize wA.alloc (.cells #[.int .i64 0, .int .i64 0, .slice none 0 0, .slice none 0 0] 27) = wA at *;refine lS 11 fun K hK => ?_
     have hbx := (hD.box _ rfl).2;have z0 := hbx.c0;have z1 := hbx.c1;have z2 := hbx.c2;have z3 := hbx.c3;have f0 := hbx.f0;have f1 := hbx.f1;have f2 := hbx.f2;have f3 := hbx.f3;go_simp;refine kP hK nH ?_;clear hK K;refine lateT_done (by kernel_rfl) ?_ _;have hM := hD.fill hr1.out hz1.out hbel1.out (q : Int) (posZ S (ini : Int)) rfl;go_wp2_with fail;go_meet;exact ⟨_, _, _, _, rfl, hide hM⟩
    ·go_simp
     replace hD := hD.alloc;refine kP hK (fun _ => hSS.out _ hD.below) ?_;clear hK K;generalize wA.alloc (.cells #[.int .i64 0, .int .i64 0, .slice none 0 0, .slice none 0 0] 27) = wA at *;refine lS 9 fun K hK => ?_
     go_simp;refine kP hK (fun _ => hSS.out _ hD.below) ?_
     clear hK K;refine lS 11 fun K hK => ?_
     have hbx := (hD.box _ rfl).2;have z0 := hbx.c0;have z1 := hbx.c1;have z2 := hbx.c2;have z3 := hbx.c3;have f0 := hbx.f0;have f1 := hbx.f1;have f2 := hbx.f2;have f3 := hbx.f3;go_simp;refine kP hK nH ?_;clear hK K;refine lateT_done (by kernel_rfl) ?_ _;have hM := hD.fill hr1.out hz1.out hbel1.out (q : Int) (posZ S (ini : Int)) rfl;go_wp2_with fail;go_meet;exact ⟨_, _, _, _, rfl, hide hM⟩
   ·go_simp
    replace hD := hD.alloc;refine kP hK (fun _ => hSS.out _ hD.below) ?_;clear hK K;generalize wA.alloc (.cells #[.int .i64 0, .int .i64 0, .slice none 0 0, .slice none 0 0] 27) = wA at *;refine lS 8 fun K hK => ?_
    go_simp;go_at_call 131; (with_reducible refine (hCl.out _ hD.below).mono ?_); rintro e wA ⟨A1, c1, rfl, hO6, hb6⟩
    replace hD := hD.clone hb6 hO6;clear hO6 hb6
    (try go_wp2_with fail)
    refine kP hK (fun _ => hSS.out _ hD.below) ?_;clear hK K;refine lS 9 fun K hK => ?_
    go_simp;refine kP hK (fun _ => hSS.out _ hD.below) ?_
    clear hK K;refine lS 11 fun K hK => ?_
    have hbx := (hD.box _ rfl).2;have z0 := hbx.c0;have z1 := hbx.c1;have z2 := hbx.c2;have z3 := hbx.c3;have f0 := hbx.f0;have f1 := hbx.f1;have f2 := hbx.f2;have f3 := hbx.f3;go_simp;refine kP hK nH ?_;clear hK K;refine lateT_done (by kernel_rfl) ?_ _;have hM := hD.fill hr1.out hz1.out hbel1.out (q : Int) (posZ S (ini : Int)) rfl;go_wp2_with fail;go_meet;exact ⟨_, _, _, _, rfl, hide hM⟩
  ·go_simp
   replace hD := hD.alloc;refine kP hK (fun _ => hSS.out _ hD.below) ?_;clear hK K;generalize wA.alloc (.cells #[.int .i64 0, .int .i64 0, .slice none 0 0, .slice none 0 0] 27) = wA at *;refine lS 5 fun K hK => ?_
   go_simp;go_at_call 129; (with_reducible refine (hPos.out _ hD.below).mono ?_); rintro e w6 ⟨rfl, e6⟩; rw [e6]; clear e6 w6
   (try go_wp2_with fail)
   refine kP hK (fun _ => hSS.out _ hD.below) ?_;clear hK K;refine lS 8 fun K hK => ?_
   go_simp;go_at_call 131; (with_reducible refine (hCl.out _ hD.below).mono ?_); rintro e wA ⟨A1, c1, rfl, hO6, hb6⟩
   replace hD := hD.clone hb6 hO6;clear hO6 hb6
   (try go_wp2_with fail)
   refine kP hK (fun _ => hSS.out _ hD.below) ?_;clear hK K;refine lS 9 fun K hK => ?_
   go_simp;refine kP hK (fun _ => hSS.out _ hD.below) ?_
   clear hK K;refine lS 11 fun K hK => ?_
   have hbx := (hD.box _ rfl).2;have z0 := hbx.c0;have z1 := hbx.c1;have z2 := hbx.c2;have z3 := hbx.c3;have f0 := hbx.f0;have f1 := hbx.f1;have f2 := hbx.f2;have f3 := hbx.f3;go_simp;refine kP hK nH ?_;clear hK K;refine lateT_done (by kernel_rfl) ?_ _;have hM := hD.fill hr1.out hz1.out hbel1.out (q : Int) (posZ S (ini : Int)) rfl;go_wp2_with fail;go_meet;exact ⟨_, _, _, _, rfl, hide hM⟩
 case rest =>
  obtain ⟨g9, e9, A1, c1, rfl, hL0⟩ := hcut;have b3 := (hAll.out wc hL0.out.bel).2.1.c3;clear hSS hPos hCl hbel1 hr1 hz1;go_wp2_with fail
  go_loopw [25] (fun v25 wr => ∃ (k k3 : Nat) (A3 : Option Addr) (c3 : Nat), k ≤ m ∧ v25 = .int .i64 (k : Nat) ∧ k3 ≤ k ∧ Hid (LtmP wB wr g9 e9 (q : Int) (posZ S (ini : Int)) A1 n c1 ls A3 k3 c3 ((es.take k).filterMap (partO S)))) (fun v _ => m - (intOf v).toNat)
  case atStart => exact ⟨0, 0, none, 0, Nat.zero_le _, rfl, zR, hL0.out⟩
  case round =>
   clear hL0 b3;obtain ⟨k, k3, A3, c3, hk, rfl, hk3, hL⟩ := hrel
   by_cases hlt : k < m
   ·obtain ⟨hSy, -, -, -⟩ := hAll.out wr hL.out.bel
    obtain ⟨gB, oB, f, l, t, rfl, -, -, hgB, hx, x0, x1, x2, -⟩ := SlE.get hSy.se hlt;clear hSy;have k0 : (0 : Int) ≤ (k : Int) := by omega
    have k1 : (k : Int) < (m : Int) := by omega
    have hstep : Hid ((es.take (k + 1)).filterMap (partO S) = (es.take k).filterMap (partO S) ++ (partO S (f, l, t)).toList) := by
     show _ = _
     rw [List.take_add_one, hx, List.filterMap_append]
     congr 1
    obtain ⟨bA, hbA⟩ : ∃ bA, bA = wr.heap.size := ⟨_, rfl⟩;obtain ⟨wA, hwA⟩ : ∃ wA, wA = wr.alloc (.cells #[.int .i64 f, .int .i64 l, .int .i64 t] 84) := ⟨_, rfl⟩;have ka : wA.heap[bA]? = some (.cells #[.int .i64 f, .int .i64 l, .int .i64 t] 84 (0, 0)) := by rw [hwA, hbA]; exact heap_alloc_new wr _
    obtain ⟨wD, hwD⟩ : ∃ wD, wD = wA.drew := ⟨_, rfl⟩;have hbD : Below wr.heap.size wr wD := by rw [hwD, hwA]; exact (bR.alloc zR _).drew
    have hLD := hide (hL.out.below hbD);have kd : wD.heap[bA]? = some (.cells #[.int .i64 f, .int .i64 l, .int .i64 t] 84 (0, 0)) := by rw [hwD]; exact ka
    have e0 := (cell_of_row _ _ 0 _ _ (0, 0) kd).trans (show _ = some (Value.int .i64 f) from rfl);have e1 := (cell_of_row _ _ 1 _ _ (0, 0) kd).trans (show _ = some (Value.int .i64 l) from rfl);have e2 := (cell_of_row _ _ 2 _ _ (0, 0) kd).trans (show _ = some (Value.int .i64 t) from rfl);obtain ⟨-, -, hSc, hSl⟩ := hAll.out wD hLD.out.bel;have hPf := part1_calls f (w.heap.size + 1) P q cP S wD _ _ hSc hSl hq hn;have hPt := part1_calls t (w.heap.size + 1) P q cP S wD _ _ hSc hSl hq hn;have hpo : partO S (f, l, t) = if 0 ≤ posZ S f ∧ 0 ≤ posZ S t then some (posZ S f, l, posZ S t) else none := rfl;rw [show partO S (f, l, t) = if 0 ≤ posZ S f ∧ 0 ≤ posZ S t then some (posZ S f, l, posZ S t) else none from rfl] at hstep;clear hpo;generalize posZ S f = pf at hPf hstep;generalize posZ S t = pt at hPt hstep;replace hPf : Hid (Calls Tryz.prog 129 #[.int .i64 f, .pointer (some ⟨w.heap.size + 1, 0, none⟩)] wD fun e w' => e = .returned (.int .i64 pf) ∧ w' = wD) := hPf;replace hPt : Hid (Calls Tryz.prog 129 #[.int .i64 t, .pointer (some ⟨w.heap.size + 1, 0, none⟩)] wD fun e w' => e = .returned (.int .i64 pt) ∧ w' = wD) := hPt;replace hx := hide hx;replace hbD := hide hbD;clear kd ka hSc hSl;go_upto_region 6 with fail;rw [← show bA = _ from hbA];rw [← show wA = _ from hwA];replace hwA := hide hwA;replace hwD := hide hwD;replace hbA := hide hbA;clear x0 x1 x2;refine lateT_begin (S := fun w' => w'.cell? ⟨bA, 0, none⟩ = some (.int .i64 f) ∧ w'.cell? ⟨bA, 2, none⟩ = some (.int .i64 t)) (st := 9) (by kernel_rfl) ?_;rw [← show wD = _ from hwD.out];have hS0 : (fun w' : World => w'.cell? ⟨bA, 0, none⟩ = some (.int .i64 f) ∧ w'.cell? ⟨bA, 2, none⟩ = some (.int .i64 t)) wD := ⟨e0, e2⟩;refine tkB 0 [9] hS0 ?_;refine tkB 1 [9] hS0 ?_;refine tkB 2 [9] hS0 ?_;refine tkB 4 [9] hS0 ?_;refine tkB 5 [9] hS0 ?_;refine tkB 6 [9] hS0 ?_;refine lS 3 fun K hK => ?_
    go_simp;go_at_call 129
    (with_reducible refine hPf.out.mono ?_)
    rintro e w6 ⟨rfl, e6⟩;rw [e6];clear e6 w6
    (try go_wp2_with fail)
    refine kP hK (fun _ => ⟨e0, e2⟩) ?_;clear hK K;refine lS 7 fun K hK => ?_
    go_simp;go_at_call 129
    (with_reducible refine hPt.out.mono ?_)
    rintro e w6 ⟨rfl, e6⟩;rw [e6];clear e6 w6
    (try go_wp2_with fail)
    refine kP hK (fun _ => ⟨e0, e2⟩) ?_;clear hK K;refine lS 8 fun K hK => ?_
    go_simp;refine kP hK (fun _ => ⟨e0, e2⟩) ?_
    clear hK K;refine lS 9 fun K hK => ?_
    go_simp;refine kP hK nH ?_
    clear hK K;refine lateT_done (by kernel_rfl) ?_ _;clear hPf hPt
    by_cases p1 : 0 ≤ pf
    ·by_cases p2 : 0 ≤ pt
     ·have hs2 := hstep.out
      rw [if_pos ⟨p1, p2⟩] at hs2;replace hs2 := hide hs2;have b3 := hLD.out.box.c3;obtain ⟨wL, hwL⟩ : ∃ wL, wL = wD.alloc (.cells #[.int .i64 pf, .int .i64 l, .int .i64 pt] 84) := ⟨_, rfl⟩;have hbl : Below wD.heap.size wD wL := by rw [hwL]; exact bR.alloc zR _
      have hLL := hLD.out.below hbl;rw [hwL] at hLL;replace hLL := hide hLL;have hOL := hide hLL.out.eds;have hlit : Hid (Sl 3 ev (wD.alloc (.cells #[.int .i64 pf, .int .i64 l, .int .i64 pt] 84)) 0 (wD.heap.size + 1) (some ⟨wD.heap.size, 0, none⟩) 1 [(pf, l, pt)]) := Sl.lit1' (f := ev) wD 84 (pf, l, pt) #[.int .i64 pf, .int .i64 l, .int .i64 pt] rfl 3 _ rfl;have hsz : (k3 + 1) * 24 ≤ 140737488355328 := by omega
      have hb9 := hLL.out.top;have hs3 : Hid ((es.take (k + 1)).filterMap (partO S) = (es.take k).filterMap (partO S) ++ [(pf, l, pt)]) := hs2.out;replace hwL := hide hwL;clear hs2 hstep hL hbl;go_upto_region 8 with fail;go_wp2_with (first | (at_builtin; (with_reducible refine wpList_app rfl (.tmp 44) (.tmp 50) rfl hEe.out flat_ev rfl hOL.out rfl hlit.out ?d1 hb9 ?_); rotate_right; intro A7 c7 w7 hown7 hgr7 hb7 hat7; obtain ⟨hbx7, hL8⟩ := hLL.out.grown hgr7 hown7; have d3 := hbx7.c3; have f3 := hbx7.f3; rw [← hs3.out] at hL8; replace hL8 := hide hL8; clear hown7 hgr7 hb7 hat7 hbx7))
      case d1 => exact hsz
      go_roundw
      case rel => exact ⟨k + 1, k3 + 1, A7, c7, by omega, by go_num, by omega, hL8.out⟩
      case measure => simp [intOf]; omega
     ·have hs2 := hstep.out
      rw [if_neg (fun e => p2 e.2)] at hs2;have hL9 := hLD.out;rw [show (es.take k).filterMap (partO S) = (es.take (k + 1)).filterMap (partO S) by rw [hs2]; simp] at hL9;replace hL9 := hide hL9;clear hs2 hstep hL hLD;go_wp2_with fail;go_roundw
      case rel => exact ⟨k + 1, k3, A3, c3, by omega, by go_num, by omega, hL9.out⟩
      case measure => simp [intOf]; omega
    ·have hs2 := hstep.out
     rw [if_neg (fun e => p1 e.1)] at hs2;have hL9 := hLD.out;rw [show (es.take k).filterMap (partO S) = (es.take (k + 1)).filterMap (partO S) by rw [hs2]; simp] at hL9;replace hL9 := hide hL9;clear hs2 hstep hL hLD;go_wp2_with fail;go_roundw
     case rel => exact ⟨k + 1, k3, A3, c3, by omega, by go_num, by omega, hL9.out⟩
     case measure => simp [intOf]; omega
   ·have hkm : k = m := by omega
    subst hkm;have hLm := hL.out;rw [List.take_of_length_le (by omega)] at hLm;have c3a := hLm.box.c3;have hqS := hide (sortE_calls hLm.eds (by omega));replace hLm := hide hLm;clear hL;go_upto_region 11 with (first | (go_at_call 132; (with_reducible refine hqS.out.mono ?_); rintro e w6 ⟨rfl, hO6, hg6⟩));have hL6 := hLm.out.same hg6 hO6;have hres : LtsBox w6 (w.heap.size + 1 + 1) 0 0 none 0 0 none 0 0 := by rw [← zB.out]; exact hL6.res
    have y0 := hL6.box.c0;have y1 := hL6.box.c1;have y2 := hL6.box.c2;have y3 := hL6.box.c3;have r0 := hres.c0;have r1 := hres.c1;have r2 := hres.c2;have r3 := hres.c3;have v0 := hres.f0;have v1 := hres.f1;have v2 := hres.f2;have v3 := hres.f3;replace hL6 := hide hL6;clear hO6 hg6 hqS c3a hLm hres;go_wp2_with fail
    (try simp only [Exit.inBlock, Exit.then])
    refine bodyPost_ret_by (v := .agg #[.int .i64 (q : Int), .int .i64 (posZ S (ini : Int)), .slice A1 n c1, .slice A3 k3 c3]) ?_ rfl ?_
    focus
     rw [results_cell1 rfl];go_simp
    obtain ⟨f1, f2, f3⟩ := hL6.out.done (.int .i64 (q : Int)) (.int .i64 (posZ S (ini : Int))) (.slice A1 n c1) (.slice A3 k3 c3) (by rw [zB.out]);have hzB := zB.out;exact ⟨A1, c1, A3, k3, c3, rfl, f1.more (by omega) zR, (f2.sl flat_ev).more (by omega) zR, hbBh.out.trans (f3.mono (by omega))⟩
def MaxL (l : List Int) (M : Int) : Prop := M ∈ l ∧ ∀ x, x ∈ l → x ≤ M
theorem MaxL.step {l : List Int} {k : Nat} {x M : Int} (h : MaxL (l.take k) M) (hx : l[k]? = some x) : MaxL (l.take (k + 1)) (if M < x then x else M) := by
 rw [List.take_add_one, hx]
 by_cases c : M < x
 ·rw [if_pos c]
  refine ⟨List.mem_append_right _ (List.mem_singleton.2 rfl), fun y hy => ?_⟩
  rcases List.mem_append.1 hy with g | g
  ·have := h.2 y g; omega
  ·have := List.mem_singleton.1 g; omega
 ·rw [if_neg c]
  refine ⟨List.mem_append_left _ h.1, fun y hy => ?_⟩
  rcases List.mem_append.1 hy with g | g
  ·exact h.2 y g
  ·have := List.mem_singleton.1 g; omega
def pv (p : List Int) (x : Int) : Int := p[x.toNat]?.getD 0
end Go.Proofs.YtnhomkmfbngmgaaGreatDoor
namespace Go.Proofs.YtnhomkmfbngmgaaGreatDoor
structure BisR {L : Type} (A B : Nat → L → Nat → Prop) (R : Nat → Nat → Prop) : Prop where
 fwd : ∀ x y s x', R x y → A x s x' → ∃ y', B y s y' ∧ R x' y'
 bwd : ∀ x y s y', R x y → B y s y' → ∃ x', A x s x' ∧ R x' y'
def Bis {L : Type} (A B : Nat → L → Nat → Prop) (a b : Nat) : Prop := ∃ R, BisR A B R ∧ R a b
section
variable {L : Type} {A B C : Nat → L → Nat → Prop} {a b c : Nat}
theorem Bis.refl (A : Nat → L → Nat → Prop) (a : Nat) : Bis A A a a :=
 ⟨fun x y => x = y, ⟨fun x y s x' e h => ⟨x', e ▸ h, rfl⟩, fun x y s y' e h => ⟨y', e.symm ▸ h, rfl⟩⟩, rfl⟩
theorem Bis.symm (h : Bis A B a b) : Bis B A b a := by
 obtain ⟨R, h1, h2⟩ := h;exact ⟨fun x y => R y x, ⟨fun x y s x' e g => h1.bwd y x s x' e g, fun x y s y' e g => h1.fwd y x s y' e g⟩, h2⟩
theorem Bis.trans (h : Bis A B a b) (g : Bis B C b c) : Bis A C a c := by
 obtain ⟨R, h1, h2⟩ := h;obtain ⟨S, g1, g2⟩ := g;refine ⟨fun x z => ∃ y, R x y ∧ S y z, ⟨fun x z s x' e k => ?_, fun x z s z' e k => ?_⟩, b, h2, g2⟩
 ·obtain ⟨y, e1, e2⟩ := e
  obtain ⟨y', k1, k2⟩ := h1.fwd x y s x' e1 k;obtain ⟨z', k3, k4⟩ := g1.fwd y z s y' e2 k1;exact ⟨z', k3, y', k2, k4⟩
 ·obtain ⟨y, e1, e2⟩ := e
  obtain ⟨y', k1, k2⟩ := g1.bwd y z s z' e2 k;obtain ⟨x', k3, k4⟩ := h1.bwd x y s y' e1 k1;exact ⟨x', k3, y', k4, k2⟩
theorem Bis.step (h : Bis A B a b) {s : L} {a' : Nat} (k : A a s a') : ∃ b', B b s b' ∧ Bis A B a' b' := by
 obtain ⟨R, h1, h2⟩ := h;obtain ⟨b', k1, k2⟩ := h1.fwd a b s a' h2 k;exact ⟨b', k1, R, h1, k2⟩
end
def nE (es : List Ed) (x : Nat) (l : Int) (y : Nat) : Prop := ((x : Int), l, (y : Int)) ∈ es
section
variable {es : List Ed} {N r : Nat}
theorem nE_in (he : EdIn N es) {x y : Nat} {l : Int} (h : nE es x l y) : x < N ∧ y < N := by
 have := he _ h;simp only at this;omega
theorem canS_nE (he : EdIn N es) {p : List Int} {k : Nat} {l b : Int} : canS es p k l b ↔ ∃ y, nE es k l y ∧ p[y]? = some b := by
 constructor
 ·rintro ⟨⟨f, l', t⟩, h1, h2, h3, h4⟩
  have := he _ h1;simp only at this h2 h3 h4;refine ⟨t.toNat, ?_, h4⟩;unfold nE;rw [← h2, ← h3, show ((t.toNat : Nat) : Int) = t by omega];exact h1
 ·rintro ⟨y, h1, h2⟩
  exact ⟨_, h1, rfl, rfl, by simpa using h2⟩
theorem bis_rnd (he : EdIn N es) : ∀ (n : Nat) {x y : Nat}, x < N → y < N → Bis (nE es) (nE es) x y → sameB (rndP es N n) x y
 | 0, x, y, hx, hy, _ => rnd_zero hx hy
 | n + 1, x, y, hx, hy, h => by
  refine (rnd_same he hx hy).2 ⟨bis_rnd he n hx hy h, fun l b => ?_⟩;rw [canS_nE he, canS_nE he]
  constructor
  ·rintro ⟨z, h1, h2⟩
   obtain ⟨w, k1, k2⟩ := h.step h1;exact ⟨w, k1, by rw [← bis_rnd he n (nE_in he h1).2 (nE_in he k1).2 k2]; exact h2⟩
  ·rintro ⟨z, h1, h2⟩
   obtain ⟨w, k1, k2⟩ := h.symm.step h1;exact ⟨w, k1, by rw [← bis_rnd he n (nE_in he h1).2 (nE_in he k1).2 k2]; exact h2⟩
theorem stable_bis (he : EdIn N es) {p : List Int} (hp : PartN N p) (hs : refF es N p = p) : BisR (nE es) (nE es) fun x y => x < N ∧ y < N ∧ sameB p x y := by
 have key : ∀ x y s x', x < N → y < N → sameB p x y → nE es x s x' → ∃ y', nE es y s y' ∧ x' < N ∧ y' < N ∧ sameB p x' y' := by
  intro x y s x' hx hy hxy h;rw [← hs] at hxy;have h1 := ((ref_same he hp.len hp.range hx hy).1 hxy).2 s;have hx' := (nE_in he h).2;obtain ⟨b, hb⟩ : ∃ b, p[x']? = some b := ⟨_, List.getElem?_eq_getElem (by rw [hp.len]; exact hx')⟩;obtain ⟨y', g1, g2⟩ := (canS_nE he).1 ((h1 b).1 ((canS_nE he).2 ⟨x', h, hb⟩));exact ⟨y', g1, hx', (nE_in he g1).2, by unfold sameB; rw [hb, g2]⟩
 refine ⟨fun x y s x' e h => key x y s x' e.1 e.2.1 e.2.2 h, fun x y s y' e h => ?_⟩;obtain ⟨x', g1, g2, g3, g4⟩ := key y x s y' e.2.1 e.1 (Eq.symm e.2.2) h;exact ⟨x', g1, g3, g2, Eq.symm g4⟩
theorem last_stable (h : LastR es N r) : refF es N (rndP es N r) = rndP es N r := h.1
theorem str_iff (he : EdIn N es) (h : LastR es N r) {x y : Nat} (hx : x < N) (hy : y < N) : sameB (rndP es N r) x y ↔ Bis (nE es) (nE es) x y :=
 ⟨fun g => ⟨_, stable_bis he (rnd_part r) (last_stable h), hx, hy, g⟩, bis_rnd he r hx hy⟩
end
def tE (ls : List ByteArray) (es : List Ed) (x : Nat) (s : ByteArray) (y : Nat) : Prop := ∃ l : Nat, nE es x (l : Int) y ∧ ls[l]? = some s
theorem bis_text {ls : List ByteArray} {es : List Ed} (hn : ls.Nodup) (hl : ∀ e, e ∈ es → 0 ≤ e.2.1 ∧ e.2.1 < (ls.length : Int)) {x y : Nat} : Bis (nE es) (nE es) x y ↔ Bis (tE ls es) (tE ls es) x y := by
 constructor
 ·rintro ⟨R, h1, h2⟩
  refine ⟨R, ⟨fun a b s a' r h => ?_, fun a b s b' r h => ?_⟩, h2⟩
  ·obtain ⟨l, g1, g2⟩ := h
   obtain ⟨b', k1, k2⟩ := h1.fwd a b _ a' r g1;exact ⟨b', ⟨l, k1, g2⟩, k2⟩
  ·obtain ⟨l, g1, g2⟩ := h
   obtain ⟨a', k1, k2⟩ := h1.bwd a b _ b' r g1;exact ⟨a', ⟨l, k1, g2⟩, k2⟩
 ·rintro ⟨R, h1, h2⟩
  have inj : ∀ {i j : Nat} {s : ByteArray}, ls[i]? = some s → ls[j]? = some s → i = j := fun {i j s} h g => by
   obtain ⟨hi, e1⟩ := List.getElem?_eq_some_iff.1 h;obtain ⟨hj, e2⟩ := List.getElem?_eq_some_iff.1 g;exact (List.getElem_inj hn).1 (e1.trans e2.symm)
  refine ⟨R, ⟨fun a b s a' r h => ?_, fun a b s b' r h => ?_⟩, h2⟩
  ·have hs := hl _ h
   simp only at hs;obtain ⟨l, rfl⟩ : ∃ l : Nat, s = (l : Int) := ⟨s.toNat, by omega⟩;obtain ⟨t, ht⟩ : ∃ t, ls[l]? = some t := ⟨_, List.getElem?_eq_getElem (by omega)⟩;obtain ⟨b', ⟨l2, k1, k2⟩, k3⟩ := h1.fwd a b t a' r ⟨l, h, ht⟩;rw [inj ht k2];exact ⟨b', k1, k3⟩
  ·have hs := hl _ h
   simp only at hs;obtain ⟨l, rfl⟩ : ∃ l : Nat, s = (l : Int) := ⟨s.toNat, by omega⟩;obtain ⟨t, ht⟩ : ∃ t, ls[l]? = some t := ⟨_, List.getElem?_eq_getElem (by omega)⟩;obtain ⟨a', ⟨l2, k1, k2⟩, k3⟩ := h1.bwd a b t b' r ⟨l, h, ht⟩;rw [inj ht k2];exact ⟨a', k1, k3⟩
def sumE {L : Type} (n : Nat) (A B : Nat → L → Nat → Prop) (x : Nat) (s : L) (y : Nat) : Prop := (x < n ∧ y < n ∧ A x s y) ∨ (∃ x' y', x = n + x' ∧ y = n + y' ∧ B x' s y')
theorem bis_sum {L : Type} {n : Nat} {A B : Nat → L → Nat → Prop} (hA : ∀ x s y, A x s y → x < n ∧ y < n) {a b : Nat} (ha : a < n) : Bis (sumE n A B) (sumE n A B) a (n + b) ↔ Bis A B a b := by
 constructor
 ·rintro ⟨R, h1, h2⟩
  refine ⟨fun x y => x < n ∧ R x (n + y), ⟨fun x y s x' r h => ?_, fun x y s y' r h => ?_⟩, ha, h2⟩
  ·have hx := hA x s x' h
   obtain ⟨y', k1, k2⟩ := h1.fwd x (n + y) s x' r.2 (.inl ⟨hx.1, hx.2, h⟩)
   rcases k1 with ⟨k, _⟩ | ⟨u, v, e1, rfl, k⟩
   ·omega
   ·obtain rfl : u = y := by omega
    exact ⟨v, k, hx.2, k2⟩
  ·obtain ⟨x', k1, k2⟩ := h1.bwd x (n + y) s (n + y') r.2 (.inr ⟨y, y', rfl, rfl, h⟩)
   rcases k1 with ⟨_, k3, k⟩ | ⟨u, v, e1, e2, k⟩
   ·exact ⟨x', k, k3, k2⟩
   ·have := r.1; omega
 ·rintro ⟨R, h1, h2⟩
  refine ⟨fun x y => x < n ∧ ∃ y', y = n + y' ∧ R x y', ⟨fun x y s x' r h => ?_, fun x y s y' r h => ?_⟩, ha, b, rfl, h2⟩
  ·obtain ⟨hx, v, rfl, r⟩ := r
   rcases h with ⟨_, k3, k⟩ | ⟨u, v, e1, e2, k⟩
   ·obtain ⟨w, g1, g2⟩ := h1.fwd x v s x' r k
    exact ⟨n + w, .inr ⟨v, w, rfl, rfl, g1⟩, k3, w, rfl, g2⟩
   ·omega
  ·obtain ⟨hx, v, rfl, r⟩ := r
   rcases h with ⟨k3, _, k⟩ | ⟨u, w, e1, rfl, k⟩
   ·omega
   ·obtain rfl : v = u := by omega
    obtain ⟨x', g1, g2⟩ := h1.bwd x v s w r k;have := hA _ _ _ g1;exact ⟨x', .inl ⟨this.1, this.2, g1⟩, this.2, w, rfl, g2⟩
def PartE (S : List Int) (es es2 : List Ed) : Prop := ∀ f l t, (f, l, t) ∈ es2 ↔ ∃ (i j : Nat) (a b : Int), f = (i : Int) ∧ t = (j : Int) ∧ S[i]? = some a ∧ S[j]? = some b ∧ (a, l, b) ∈ es
theorem part_bis {S : List Int} {es es2 : List Ed} (hp : PartE S es es2) (hc : ∀ a l b, a ∈ S → (a, l, b) ∈ es → b ∈ S) (hS : S.Nodup) (hnn : ∀ a, a ∈ S → 0 ≤ a) {x i : Nat} (hx : S[i]? = some (x : Int)) : Bis (nE es) (nE es2) x i := by
 refine ⟨fun x i => S[i]? = some (x : Int), ⟨fun a i l a' r h => ?_, fun a i l j r h => ?_⟩, hx⟩
 ·have hb := hc _ _ _ (List.mem_of_getElem? r) h
  obtain ⟨j, hj⟩ := List.getElem?_of_mem hb;exact ⟨j, (hp _ _ _).2 ⟨i, j, _, _, rfl, rfl, r, hj, h⟩, hj⟩
 ·obtain ⟨i2, j2, a2, b2, e1, e2, h1, h2, h3⟩ := (hp _ _ _).1 h
  obtain rfl : i2 = i := by omega
  obtain rfl : j2 = j := by omega
  rw [r] at h1;injection h1 with h1;subst h1;have := hnn b2 (List.mem_of_getElem? h2);exact ⟨b2.toNat, by unfold nE; rw [show ((b2.toNat : Nat) : Int) = b2 by omega]; exact h3, by rw [h2]; congr 1; omega⟩
section
variable {es es2 : List Ed} {N r : Nat} {p : List Int}
end
open Go.ChangeAt Go.ChangeShapes Go.Lib Go.RowKit Go.Sort Go.WideShapes
theorem compactE_rise {l : List Ed} (h : l.Pairwise fun x y => edLess y x = false) : RisE (Lib.compact l) := by
 unfold RisE Lib.compact Lib.compactUpTo;rw [List.pairwise_map];refine List.Pairwise.imp_of_mem (fun {p q} hp hq hpq => ?_) (List.Pairwise.filter _ (List.pairwise_lt_range (n := l.length)));obtain ⟨hp1, -⟩ := List.mem_filter.1 hp;obtain ⟨hq1, hq2⟩ := List.mem_filter.1 hq;have hp1 := List.mem_range.1 hp1;have hq1 := List.mem_range.1 hq1;unfold Lib.keeps at hq2;rw [decide_eq_true_eq] at hq2;have hne : l.toArray[q]! ≠ l.toArray[q - 1]! := hq2.resolve_left (by omega);rw [getElem!_pos _ q (by simpa using hq1), getElem!_pos _ (q - 1) (by simp; omega)] at hne;rw [getElem!_pos _ p (by simpa using hp1), getElem!_pos _ q (by simpa using hq1)];simp only [List.getElem_toArray] at hne ⊢;have h1 := List.pairwise_iff_getElem.1 h (q - 1) q (by omega) hq1 (by omega);have h2 : edLess l[q - 1] l[q] = true := by
  rcases edLess_total (fun e => hne e.symm) with g | g
  ·exact g
  ·rw [h1] at g; cases g
 by_cases e : p = q - 1
 ·subst e; exact h2
 ·have h3 := List.pairwise_iff_getElem.1 h p (q - 1) hp1 (by omega) (by omega)
  by_cases e2 : l[p] = l[q - 1]
  ·rw [e2]; exact h2
  ·rcases edLess_total e2 with g | g
   ·exact edLess_trans g h2
   ·rw [h3] at g; cases g
theorem sortE_rise {l : List Ed} (hn : l.Nodup) : RisE (sortE l) := by
 have h1 := sortE_le l;have h2 : (sortE l).Nodup := (List.mergeSort_perm l _).nodup_iff.2 hn;refine List.pairwise_iff_getElem.2 fun i j hi hj hij => ?_
 have h3 := List.pairwise_iff_getElem.1 h1 i j hi hj hij;have h4 := List.pairwise_iff_getElem.1 h2 i j hi hj hij
 rcases edLess_total h4 with g | g
 ·exact g
 ·rw [h3] at g; cases g
theorem rise_nodup {l : List Ed} (h : RisE l) : l.Nodup := h.imp fun {a b} g e => by rw [e, edLess_irr] at g; cases g
theorem ltsV_of {st ini : Int} {ls : List ByteArray} {es : List Ed} (h1 : 1 ≤ st ∧ st ≤ 40) (h2 : 0 ≤ ini ∧ ini < st) (hn : namesB ls = true) (hes : es.length ≤ 300) (hr : RisE es)
  (he : ∀ e, e ∈ es → (0 ≤ e.1 ∧ e.1 < st) ∧ (0 ≤ e.2.1 ∧ e.2.1 < (ls.length : Int)) ∧ 0 ≤ e.2.2 ∧ e.2.2 < st) : ltsV (st, ini, ls, es) = true := by
 rw [ltsV_eq];simp only [Bool.and_eq_true, decide_eq_true_eq];refine ⟨⟨inB_true.2 (by omega), inB_true.2 (by omega), hn, hes⟩, allK_good fun k hk => ?_⟩;obtain ⟨⟨f, lb, t⟩, hx⟩ : ∃ x, es[k]? = some x := ⟨_, List.getElem?_eq_getElem hk⟩;have hb := he _ (List.mem_of_getElem? hx)
 (try dsimp only at hb)
 have b1 : inB f 0 (st - 1) = true := inB_true.2 (by omega);have b2 : inB t 0 (st - 1) = true := inB_true.2 (by omega);have b3 : inB lb 0 ((ls.length : Int) - 1) = true := inB_true.2 (by omega)
 by_cases k0 : k = 0
 ·subst k0
  have := okE_zero (st := st) (m := ls.length) hx;rw [this, b1, b2, b3]; rfl
 ·obtain ⟨r, hrr⟩ : ∃ r, es[k - 1]? = some r := ⟨_, List.getElem?_eq_getElem (by omega)⟩
  have := okE_at (st := st) (m := ls.length) hx (by omega) hrr;rw [this, b1, b2, b3];have p := List.pairwise_iff_getElem.1 hr (k - 1) k (by omega) hk (by omega);rw [(List.getElem?_eq_some_iff.1 hrr).2, (List.getElem?_eq_some_iff.1 hx).2] at p;rw [p]; rfl
theorem ltsV_names {st ini : Int} {ls : List ByteArray} {es : List Ed} (h : ltsV (st, ini, ls, es) = true) : namesB ls = true ∧ es.length ≤ 300 := by
 rw [ltsV_eq] at h;simp only [Bool.and_eq_true, decide_eq_true_eq] at h;exact ⟨h.1.2.2.1, h.1.2.2.2⟩
theorem rise_near {es : List Ed} (h : ∀ k r e, 0 < k → es[k - 1]? = some r → es[k]? = some e → edLess r e = true) : RisE es := by
 have key : ∀ d i (hi : i < es.length) (hj : i + 1 + d < es.length), edLess es[i] es[i + 1 + d] = true := by
  intro d
  induction d with
  | zero => exact fun i hi hj => h (i + 1) _ _ (by omega) (List.getElem?_eq_getElem hi) (List.getElem?_eq_getElem hj)
  | succ d ih => exact fun i hi hj => edLess_trans (ih i hi (by omega)) (h (i + 1 + (d + 1)) _ _ (by omega) (List.getElem?_eq_getElem (show i + 1 + (d + 1) - 1 < es.length by omega)) (List.getElem?_eq_getElem hj))
 refine List.pairwise_iff_getElem.2 fun i j hi hj hij => ?_
 have := key (j - i - 1) i hi (by omega);have e : i + 1 + (j - i - 1) = j := by omega
 simpa only [e] using this
theorem ltsV_rise {st ini : Int} {ls : List ByteArray} {es : List Ed} (h : ltsV (st, ini, ls, es) = true) : RisE es := by
 rw [ltsV_eq] at h;simp only [Bool.and_eq_true] at h;refine rise_near fun k r e hk hr he => ?_
 obtain ⟨f, lb, t⟩ := e;have h1 := allK_get h.2 (List.getElem?_eq_some_iff.1 he).1;rw [okE_at he hk hr] at h1;simp only [Bool.and_eq_true] at h1;exact h1.2
theorem partF_part {S : List Int} {es : List Ed} (hn : S.Nodup) : PartE S es (partF S es) := by
 intro f l t;unfold partF;rw [sortE_mem, List.mem_filterMap]
 constructor
 ·rintro ⟨⟨a, l', b⟩, he, h⟩
  unfold partO at h;dsimp only at h
  by_cases c : 0 ≤ posZ S a ∧ 0 ≤ posZ S b
  ·rw [if_pos c] at h
   injection h with h;injection h with h1 h2;injection h2 with h2 h3;obtain ⟨i, hi⟩ : ∃ i : Nat, posZ S a = (i : Int) := ⟨(posZ S a).toNat, by omega⟩;obtain ⟨j, hj⟩ : ∃ j : Nat, posZ S b = (j : Int) := ⟨(posZ S b).toNat, by omega⟩;exact ⟨i, j, a, b, by omega, by omega, (posZ_at hn).1 hi, (posZ_at hn).1 hj, h2 ▸ he⟩
  ·rw [if_neg c] at h
   cases h
 ·rintro ⟨i, j, a, b, rfl, rfl, hi, hj, he⟩
  refine ⟨(a, l, b), he, ?_⟩;have h1 := (posZ_at hn).2 hi;have h2 := (posZ_at hn).2 hj;unfold partO;dsimp only;rw [h1, h2, if_pos ⟨by omega, by omega⟩]
theorem posZ_inj {l : List Int} {u v : Int} (h : posZ l u = posZ l v) (h0 : 0 ≤ posZ l u) : u = v := by
 unfold posZ at h h0
 by_cases hu : u ∈ l
 ·by_cases hv : v ∈ l
  ·rw [if_pos hu, if_pos hv] at h
   have h2 : l.idxOf u < l.length := List.idxOf_lt_length_iff.2 hu;have h3 : l.idxOf v < l.length := List.idxOf_lt_length_iff.2 hv;have e : l.idxOf u = l.idxOf v := by omega
   have g1 : l[l.idxOf u] = u := List.getElem_idxOf h2;have g2 : l[l.idxOf v] = v := List.getElem_idxOf h3;rw [← g1, ← g2]
   congr 1
  ·rw [if_pos hu, if_neg hv] at h
   omega
 ·rw [if_neg hu] at h0
  omega
theorem filterMap_nodup {α β : Type} {f : α → Option β} (hf : ∀ a b c, f a = some c → f b = some c → a = b) : ∀ {l : List α}, l.Nodup → (l.filterMap f).Nodup
 | [], _ => List.nodup_nil
 | a :: r, h => by
  obtain ⟨h1, h2⟩ := List.nodup_cons.1 h
  cases hfa : f a with
  | none => rw [List.filterMap_cons_none hfa]; exact filterMap_nodup hf h2
  | some c =>
   rw [List.filterMap_cons_some hfa];refine List.nodup_cons.2 ⟨fun hm => ?_, filterMap_nodup hf h2⟩;obtain ⟨b, hb, e⟩ := List.mem_filterMap.1 hm;exact h1 (hf a b c hfa e ▸ hb)
theorem partF_rise {S : List Int} {es : List Ed} (h : RisE es) : RisE (partF S es) := by
 unfold partF;refine sortE_rise (filterMap_nodup (fun a b c ha hb => ?_) (rise_nodup h));unfold partO at ha hb
 by_cases c1 : 0 ≤ posZ S a.1 ∧ 0 ≤ posZ S a.2.2
 ·by_cases c2 : 0 ≤ posZ S b.1 ∧ 0 ≤ posZ S b.2.2
  ·rw [if_pos c1] at ha
   rw [if_pos c2] at hb;have e := Option.some.inj (ha.trans hb.symm);injection e with e1 e2;injection e2 with e2 e3;have g1 := posZ_inj e1 c1.1;have g3 := posZ_inj e3 c1.2;obtain ⟨x, y, z⟩ := a;obtain ⟨x', y', z'⟩ := b;simp only at g1 g3 e2;rw [g1, g3, e2]
  ·rw [if_neg c2] at hb; cases hb
 ·rw [if_neg c1] at ha; cases ha
theorem partF_len {S : List Int} {es : List Ed} : (partF S es).length ≤ es.length := by
 unfold partF;rw [sortE_len];exact List.length_filterMap_le _ _
theorem part_valid {N ini : Nat} {ls : List ByteArray} {es : List Ed} {S : List Int} (h : ltsV ((N : Int), (ini : Int), ls, es) = true) (hn : S.Nodup) (hS : S.length ≤ 40) (hi : (ini : Int) ∈ S) :
  ltsV ((S.length : Int), posZ S (ini : Int), ls, partF S es) = true ∧ 0 ≤ posZ S (ini : Int) := by
 have h2 : S.idxOf (ini : Int) < S.length := List.idxOf_lt_length_iff.2 hi;have hp : posZ S (ini : Int) = ((S.idxOf (ini : Int) : Nat) : Int) := by unfold posZ; rw [if_pos hi]
 have hnm := ltsV_names h;have hl := partF_len (S := S) (es := es);refine ⟨ltsV_of (by omega) (by omega) hnm.1 (by omega) (partF_rise (ltsV_rise h)) fun e he => ?_, by omega⟩;obtain ⟨f, l, t⟩ := e;obtain ⟨i, j, a, b, rfl, rfl, hi, hj, hm⟩ := (partF_part hn f l t).1 he;have h1 := (List.getElem?_eq_some_iff.1 hi).1;have h3 := (List.getElem?_eq_some_iff.1 hj).1;have h4 := ((ltsV_edge h).1 _ hm).2.1;dsimp only at h4 ⊢;omega
end Go.Proofs.YtnhomkmfbngmgaaGreatDoor
namespace Go.Proofs.YtnhomkmfbngmgaaGreatDoor
section
variable {K na nb : Int} {ea : List Ed} {la : List ByteArray} {eb : List Ed} {lb : List ByteArray}
end
open Classical in
noncomputable def tabR (n p : Nat) (S : Rel2) : List (List Bool) := (List.range n).map fun x : Nat => (List.range p).map fun y : Nat => decide (S (x : Int) (y : Int))
open Classical in
noncomputable def rowR2 (p : Nat) (S : Rel2) (x : Nat) : List Bool := (List.range p).map fun y : Nat => decide (S (x : Int) (y : Int))
theorem rowR2_len (p : Nat) (S : Rel2) (x : Nat) : (rowR2 p S x).length = p := by simp [rowR2]
theorem tabR_get {n p : Nat} {S : Rel2} {x : Nat} (h : x < n) : (tabR n p S)[x]? = some (rowR2 p S x) := by simp [tabR, rowR2, h]
open Classical in
theorem rowR2_get {p : Nat} {S : Rel2} {x y : Nat} (h : y < p) : (rowR2 p S x)[y]? = some (decide (S (x : Int) (y : Int))) := by simp [rowR2, h]
end Go.Proofs.YtnhomkmfbngmgaaGreatDoor
