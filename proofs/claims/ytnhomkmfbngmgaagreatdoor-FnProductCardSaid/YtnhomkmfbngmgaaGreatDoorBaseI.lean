/-
  Lemmas that the law of this claim leans on. Conditions: sizes.
-/
import Derived.Test.YtnhomkmfbngmgaaGreatDoorBaseB
import Derived.Test.YtnhomkmfbngmgaaGreatDoorBaseD
import Derived.Test.YtnhomkmfbngmgaaGreatDoorBaseE
import Derived.Test.YtnhomkmfbngmgaaGreatDoorBaseG
import Derived.Test.YtnhomkmfbngmgaaGreatDoorBaseH
import Derived.Lib.SliceRun
import Derived.StillTailTactics
import Derived.Deep.LoopGhost
import Derived.Deep.RegionLaw
import Derived.Outline
import Derived.WalkSpells
import Derived.Laws.CopyOwn
import Derived.Laws.Bits64b
set_option maxHeartbeats 6400000
set_option maxRecDepth 100000
set_option linter.unusedSimpArgs false
set_option linter.unusedVariables false
namespace Go.Proofs.YtnhomkmfbngmgaaGreatDoor
open Go.ChangeShapes Go.WideShapes Go.ChangeAt Go.RowKit Go.Sort Go.Lib
structure TwoS (w wr : World) (Na ia : Nat) (A : Option Addr) (n c : Nat) (B : Option Addr) (m d : Nat) (Nb ib : Nat) (A' : Option Addr) (n' c' : Nat) (B' : Option Addr) (m' d' : Nat) : Prop where
 boxa : LtsBox wr w.heap.size (Na : Int) (ia : Int) A n c B m d
 boxb : LtsBox wr (w.heap.size + 1) (Nb : Int) (ib : Int) A' n' c' B' m' d'
 bel : Below w.heap.size w wr
def TwoC (w w' : World) (Na ia : Nat) (A : Option Addr) (n c : Nat) (B : Option Addr) (m d : Nat) (Nb ib : Nat) (A' : Option Addr) (n' c' : Nat) (B' : Option Addr) (m' d' : Nat) : Prop :=
 w'.cell? ⟨w.heap.size, 0, none⟩ = some (.int .i64 (Na : Int)) ∧ w'.cell? ⟨w.heap.size, 1, none⟩ = some (.int .i64 (ia : Int)) ∧ w'.cell? ⟨w.heap.size, 2, none⟩ = some (.slice A n c) ∧ w'.cell? ⟨w.heap.size, 3, none⟩ = some (.slice B m d) ∧
 w'.cell? ⟨w.heap.size + 1, 0, none⟩ = some (.int .i64 (Nb : Int)) ∧ w'.cell? ⟨w.heap.size + 1, 1, none⟩ = some (.int .i64 (ib : Int)) ∧ w'.cell? ⟨w.heap.size + 1, 2, none⟩ = some (.slice A' n' c') ∧ w'.cell? ⟨w.heap.size + 1, 3, none⟩ = some (.slice B' m' d')
section
variable {w wr w2 : World} {Na ia : Nat} {A : Option Addr} {n c : Nat} {B : Option Addr} {m d : Nat} {Nb ib : Nat} {A' : Option Addr} {n' c' : Nat} {B' : Option Addr} {m' d' : Nat}
theorem TwoS.below (h : TwoS w wr Na ia A n c B m d Nb ib A' n' c' B' m' d') {K : Nat} (hb : Below K wr w2) (hK : wr.heap.size ≤ K) : TwoS w w2 Na ia A n c B m d Nb ib A' n' c' B' m' d' := by
 have := h.boxa.lt;have := h.boxb.lt;exact ⟨h.boxa.below hb (by omega), h.boxb.below hb (by omega), h.bel.trans (hb.mono (by omega))⟩
theorem TwoS.cells (h : TwoS w wr Na ia A n c B m d Nb ib A' n' c' B' m' d') : TwoC w wr Na ia A n c B m d Nb ib A' n' c' B' m' d' :=
 ⟨h.boxa.c0, h.boxa.c1, h.boxa.c2, h.boxa.c3, h.boxb.c0, h.boxb.c1, h.boxb.c2, h.boxb.c3⟩
theorem TwoS.start (w : World) (Na ia : Nat) (A : Option Addr) (n c : Nat) (B : Option Addr) (m d : Nat) (Nb ib : Nat) (A' : Option Addr) (n' c' : Nat) (B' : Option Addr) (m' d' : Nat) :
  TwoS w ((w.alloc (ltsC Na ia A n c B m d)).alloc (ltsC Nb ib A' n' c' B' m' d')) Na ia A n c B m d Nb ib A' n' c' B' m' d' := by
 have z1 : (w.alloc (ltsC Na ia A n c B m d)).heap.size = w.heap.size + 1 := World.size_alloc _ _;have b1 := (Below.refl (w.heap.size + 1) (w.alloc (ltsC Na ia A n c B m d))).alloc (by omega) (ltsC Nb ib A' n' c' B' m' d');have x1 : LtsBox (w.alloc (ltsC Na ia A n c B m d)) w.heap.size (Na : Int) (ia : Int) A n c B m d := heap_alloc_new w _;have x2 : LtsBox ((w.alloc (ltsC Na ia A n c B m d)).alloc (ltsC Nb ib A' n' c' B' m' d')) (w.heap.size + 1) (Nb : Int) (ib : Int) A' n' c' B' m' d' := by rw [← z1]; exact heap_alloc_new _ _
 exact ⟨x1.below b1 (by omega), x2, ((Below.refl w.heap.size w).alloc zR _).trans (b1.mono (by omega))⟩
end
theorem initialTogether_calls (Na ia : Nat) (A : Option Addr) (n c : Nat) (B : Option Addr) (m d : Nat) (Nb ib : Nat) (A' : Option Addr) (n' c' : Nat) (B' : Option Addr) (m' d' : Nat) (P : Option Addr) (cP : Nat) (p : List Int) (w : World) (lo hi : Nat) (hP : SlI w lo hi P (Na + Nb) p) (hia : ia < Na) (hib : ib < Nb) (hNa : Na ≤ 40) (hNb : Nb ≤ 40) :
  Calls Tryz.prog 136 #[.agg #[.int .i64 (Na : Int), .int .i64 (ia : Int), .slice A n c, .slice B m d], .agg #[.int .i64 (Nb : Int), .int .i64 (ib : Int), .slice A' n' c', .slice B' m' d'], .slice P (Na + Nb) cP] w (Says (decide (p[ia]? = p[Na + ib]?)) w) := by
 have hT := TwoS.start w Na ia A n c B m d Nb ib A' n' c' B' m' d';obtain ⟨w1, hw1⟩ : ∃ w1, w1 = (w.alloc (ltsC Na ia A n c B m d)).alloc (ltsC Nb ib A' n' c' B' m' d') := ⟨_, rfl⟩;rw [← hw1] at hT;obtain ⟨g, o, x, rfl, -, -, hg, hx, cx, -⟩ := SlI.get hP (show ia < Na + Nb by omega);obtain ⟨g2, o2, y, e2, -, -, hg2, hy, cy, -⟩ := SlI.get hP (show Na + ib < Na + Nb by omega);cases e2;replace cx := (hT.bel.cell (p := ⟨g, o + ia, none⟩) hg).trans cx;replace cy := (hT.bel.cell (p := ⟨g, o + (Na + ib), none⟩) hg).trans cy;obtain ⟨a0, a1, a2, a3, b0, b1, b2, b3⟩ := hT.cells;have hsum : IntKind.i64.wrap ((Na : Int) + (ib : Int)) = (Na : Int) + (ib : Int) := IntWalk.i64_in _ (by omega);have hsum2 : ((Na : Int) + (ib : Int)).toNat = Na + ib := by omega
 have i0 : (0 : Int) ≤ (ia : Int) := by omega
 have i1 : (ia : Int) < ((Na + Nb : Nat) : Int) := by omega
 have j0 : (0 : Int) ≤ (Na : Int) + (ib : Int) := by omega
 have j1 : (Na : Int) + (ib : Int) < ((Na + Nb : Nat) : Int) := by omega
 have hv : decide (p[ia]? = p[Na + ib]?) = (x == y) := by rw [hx, hy]; by_cases e : x = y <;> simp [e]
 rw [hv];have hbel := hide hT.bel;clear hT hP hx hy hv
 by_cases e : x = y
 ·subst e
  have g1 : (x == x) = true := by simp
  rw [g1];go_enter Tryz.func136, Tryz.ntmps136;go_upto_region 1 with fail;rw [show ((w.alloc (.cells #[.int .i64 (Na : Int), .int .i64 (ia : Int), .slice A n c, .slice B m d] 27)).alloc (.cells #[.int .i64 (Nb : Int), .int .i64 (ib : Int), .slice A' n' c', .slice B' m' d'] 27)) = w1 from hw1.symm];replace hw1 := hide hw1;go_quiet (fail);go_wp2_with fail;go_ret;exact ⟨rfl, hbel.out.trans ((below_drewN _ _).mono hbel.out.size)⟩
 ·have g1 : (x == y) = false := by rw [beq_eq_false_iff_ne]; exact e
  rw [g1];go_enter Tryz.func136, Tryz.ntmps136;go_upto_region 1 with fail;rw [show ((w.alloc (.cells #[.int .i64 (Na : Int), .int .i64 (ia : Int), .slice A n c, .slice B m d] 27)).alloc (.cells #[.int .i64 (Nb : Int), .int .i64 (ib : Int), .slice A' n' c', .slice B' m' d'] 27)) = w1 from hw1.symm];replace hw1 := hide hw1;go_quiet (fail);go_wp2_with fail;go_ret;exact ⟨rfl, hbel.out.trans ((below_drewN _ _).mono hbel.out.size)⟩
section
variable {w : World} {Na ia : Nat} {A : Option Addr} {n : Nat} {B : Option Addr} {m : Nat} {la : List ByteArray} {ea : List Ed} {Nb ib : Nat} {A' : Option Addr} {n' : Nat} {B' : Option Addr} {m' : Nat} {lb : List ByteArray} {eb : List Ed}
theorem SysA.three (h : SysA w Na ia A n B m la ea) : ∀ e, e ∈ ea → (0 ≤ e.1 ∧ e.1 < (Na : Int)) ∧ (0 ≤ e.2.1 ∧ e.2.1 < (la.length : Int)) ∧ (0 ≤ e.2.2 ∧ e.2.2 < (Na : Int)) := fun e he => ⟨(h.ends e he).1, h.labs e he, (h.ends e he).2⟩
theorem both_calls (h : SysA w Na ia A n B m la ea) (g : SysA w Nb ib A' n' B' m' lb eb) (c d c' d' : Nat) (hsum : Na + Nb ≤ 80) :
  Calls Tryz.prog 137 #[.agg #[.int .i64 (Na : Int), .int .i64 (ia : Int), .slice A n c, .slice B m d], .agg #[.int .i64 (Nb : Int), .int .i64 (ib : Int), .slice A' n' c', .slice B' m' d'], .func (.func 64) #[] #[]] w fun e w' => ∃ r P cP, e = .returned (.slice P (Na + Nb) cP) ∧ LastR (uniE la ea lb eb Na) (Na + Nb) r ∧ SlI w' w.heap.size w'.heap.size P (Na + Nb) (rndP (uniE la ea lb eb Na) (Na + Nb) r) ∧ Below w.heap.size w w' := by
 have hT := TwoS.start w Na ia A n c B m d Nb ib A' n' c' B' m' d';obtain ⟨w1, hw1⟩ : ∃ w1, w1 = (w.alloc (ltsC Na ia A n c B m d)).alloc (ltsC Nb ib A' n' c' B' m' d') := ⟨_, rfl⟩;rw [← hw1] at hT;obtain ⟨hm, hn12, hn1, hle, hll⟩ := h.many;obtain ⟨hm', hn12', hn1', hle', hll'⟩ := g.many;have hbo := h.bounds.1.1;have hui := uni_in (la := la) (ea := ea) (lb := lb) (eb := eb) (by omega) (by omega) h.three g.three;have hqU := hide (union_calls (h.below hT.bel zR) (g.below hT.bel zR) c d c' d');have hul : (uniE la ea lb eb Na).length ≤ 1000 := by
  refine Nat.le_trans (ltsEs_len _ _) ?_;unfold uniA;simp only [List.length_append, List.length_map];omega
 obtain ⟨a0, a1, a2, a3, b0, b1, b2, b3⟩ := hT.cells;replace hui := hide hui;have hbel := hide hT.bel;clear hT h g;go_enter Tryz.func137, Tryz.ntmps137;go_upto_region 1 with fail;rw [show ((w.alloc (.cells #[.int .i64 (Na : Int), .int .i64 (ia : Int), .slice A n c, .slice B m d] 27)).alloc (.cells #[.int .i64 (Nb : Int), .int .i64 (ib : Int), .slice A' n' c', .slice B' m' d'] 27)) = w1 from hw1.symm];replace hw1 := hide hw1
 go_wp2_with (go_at_call 229; refine hqU.out.mono ?_; rintro e w2 ⟨A2, n2, c2, A3, n3, c3, rfl, hS2, hE2, hb2⟩)
 have hlen : (uniE la ea lb eb Na).length = n3 := hE2.len;have hz2 := hbel.out.size;have hS : SysE w2 (Na + Nb) A3 n3 (uniE la ea lb eb Na) := ⟨hE2.here', by omega, by omega, hsum, hui.out.1, hui.out.2⟩;have q := strongG_calls (ini := ia) (A := A2) (n := n2) hS c2 c3;rw [Int.natCast_add] at q;replace hS2 := hide hS2;replace hE2 := hide hE2;replace hlen := hide hlen;replace q := hide q;clear hS a0 a1 a2 a3 b0 b1 b2 b3;refine q.out.mono ?_;rintro e w3 ⟨r, P, cP, rfl, hL, hP, hb3⟩;have hbF := hide ((hbel.out.trans (hb2.mono hz2)).trans (hb3.mono (Nat.le_trans hz2 hb2.size)));have hPF := hide (hP.more (Nat.le_trans hz2 hb2.size) zR);replace hL := hide hL;clear hb2 hb3 hP q;go_wp2_with fail;go_ret;exact ⟨r, P, cP, rfl, hL.out, hPF.out, hbF.out⟩
theorem areBisimilar_calls (h : SysA w Na ia A n B m la ea) (g : SysA w Nb ib A' n' B' m' lb eb) (c d c' d' : Nat) (he : Env w) (hsum : Na + Nb ≤ 80) :
  Calls Tryz.prog 63 #[.agg #[.int .i64 (Na : Int), .int .i64 (ia : Int), .slice A n c, .slice B m d], .agg #[.int .i64 (Nb : Int), .int .i64 (ib : Int), .slice A' n' c', .slice B' m' d'], .func (.func 64) #[] #[]] w fun e w' => ∃ r, e = .returned (.tuple #[.bool (decide ((rndP (uniE la ea lb eb Na) (Na + Nb) r)[ia]? = (rndP (uniE la ea lb eb Na) (Na + Nb) r)[Na + ib]?)), .int .i64 0]) ∧ LastR (uniE la ea lb eb Na) (Na + Nb) r ∧ Below w.heap.size w w' := by
 have hT := TwoS.start w Na ia A n c B m d Nb ib A' n' c' B' m' d';obtain ⟨w1, hw1⟩ : ∃ w1, w1 = (w.alloc (ltsC Na ia A n c B m d)).alloc (ltsC Nb ib A' n' c' B' m' d') := ⟨_, rfl⟩;rw [← hw1] at hT;have hia := h.bounds.2;have hib := g.bounds.2;have hNa2 := h.bounds.1.2;have hNb2 := g.bounds.1.2;have he1 := he.below hT.bel zR;have hq1 := hide ((h.below hT.bel zR).valid c d he1);obtain ⟨a0, a1, a2, a3, b0, b1, b2, b3⟩ := hT.cells;replace hT := hide hT;go_enter Tryz.func63, Tryz.ntmps63;go_upto_region 1 with fail;rw [show ((w.alloc (.cells #[.int .i64 (Na : Int), .int .i64 (ia : Int), .slice A n c, .slice B m d] 27)).alloc (.cells #[.int .i64 (Nb : Int), .int .i64 (ib : Int), .slice A' n' c', .slice B' m' d'] 27)) = w1 from hw1.symm];replace hw1 := hide hw1;go_wp2_with fail;refine hq1.out.mono ?_;rintro e w2 ⟨rfl, hb2⟩;have hT2 := hT.out.below hb2 zR;have he2 := he1.below hb2 zR;have hq2 := hide ((g.below hT2.bel zR).valid c' d' he2);clear a0 a1 a2 a3 b0 b1 b2 b3 hb2 hq1;obtain ⟨a0, a1, a2, a3, b0, b1, b2, b3⟩ := hT2.cells;replace hT2 := hide hT2;go_wp2_with fail;refine hq2.out.mono ?_;rintro e w3 ⟨rfl, hb3⟩;have hT3 := hide (hT2.out.below hb3 zR);clear a0 a1 a2 a3 b0 b1 b2 b3 hb3 hq2;go_wp2_with fail;obtain ⟨wD, hwD⟩ : ∃ wD, wD = w3.drew := ⟨_, rfl⟩;have hTD := hide (hT3.out.below (w2 := wD) (K := w3.heap.size) (by rw [hwD]; exact bR.drew) zR);have hqB := hide (both_calls (h.below hTD.out.bel zR) (g.below hTD.out.bel zR) c d c' d' hsum);replace hwD := hide hwD;clear h g he he1 he2;refine lateT_begin (S := fun w' => TwoC w w' Na ia A n c B m d Nb ib A' n' c' B' m' d') (st := 8) (by kernel_rfl) ?_;rw [← show wD = _ from hwD.out];have hS0 : (fun w' : World => TwoC w w' Na ia A n c B m d Nb ib A' n' c' B' m' d') wD := hTD.out.cells;refine tkA _ 0 [8] rfl (Or.inl ⟨by rfl, by intro w9 hSw; obtain ⟨y0, y1, y2, y3, z0, z1, z2, z3⟩ := hSw; go_simp <;> with_reducible rfl⟩) hS0 ?_;refine tkA _ 1 [8] rfl (Or.inl ⟨by rfl, by intro w9 hSw; obtain ⟨y0, y1, y2, y3, z0, z1, z2, z3⟩ := hSw; go_simp <;> with_reducible rfl⟩) hS0 ?_;refine tkA _ 2 [8] rfl (Or.inl ⟨by rfl, by intro w9 hSw; obtain ⟨y0, y1, y2, y3, z0, z1, z2, z3⟩ := hSw; go_simp <;> with_reducible rfl⟩) hS0 ?_;refine tkA _ 3 [8] rfl (Or.inl ⟨by rfl, by intro w9 hSw; obtain ⟨y0, y1, y2, y3, z0, z1, z2, z3⟩ := hSw; go_simp <;> with_reducible rfl⟩) hS0 ?_;refine tkA _ 4 [8] rfl (Or.inl ⟨by rfl, by intro w9 hSw; obtain ⟨y0, y1, y2, y3, z0, z1, z2, z3⟩ := hSw; go_simp <;> with_reducible rfl⟩) hS0 ?_;refine lS 5 fun K hK => ?_
 go_simp;go_at_call 137
 refine hqB.out.mono ?_;rintro e w5 ⟨r, P, cP, rfl, hL, hP, hb5⟩;have hT5 := hide (hTD.out.below hb5 zR);have hqI := hide (initialTogether_calls Na ia A n c B m d Nb ib A' n' c' B' m' d' P cP _ w5 _ _ hP (by omega) (by omega) hNa2 hNb2);have hb5h := hide hb5;replace hL := hide hL;clear hb5;go_wp2_with fail;refine kP hK (fun _ => hT5.out.cells) ?_;clear hK K;refine lS 6 fun K hK => ?_
 go_simp;go_at_call 136
 refine hqI.out.mono ?_;rintro e w6 ⟨rfl, hb6⟩;have hT6 := hide (hT5.out.below hb6 zR);clear hqI;go_wp2_with fail;refine kP hK (fun _ => hT6.out.cells) ?_;clear hK K;refine lS 7 fun K hK => ?_
 go_simp;refine kP hK (fun _ => hT6.out.cells) ?_
 clear hK K;refine lS 8 fun K hK => ?_
 go_simp;refine kP hK nH ?_
 clear hK K;refine lateT_done (by kernel_rfl) ?_ _;have hbF := hT6.out.bel;go_wp2_with fail;go_ret2;exact ⟨r, rfl, hL.out, hbF⟩
theorem areBis_calls (h : SysA w Na ia A n B m la ea) (g : SysA w Nb ib A' n' B' m' lb eb) (c d c' d' : Nat) (he : Env w) (hsum : Na + Nb ≤ 80) :
  Calls Tryz.prog 19 #[.agg #[.int .i64 (Na : Int), .int .i64 (ia : Int), .slice A n c, .slice B m d], .agg #[.int .i64 (Nb : Int), .int .i64 (ib : Int), .slice A' n' c', .slice B' m' d']] w fun e w' => ∃ r, e = .returned (.tuple #[.bool (decide ((rndP (uniE la ea lb eb Na) (Na + Nb) r)[ia]? = (rndP (uniE la ea lb eb Na) (Na + Nb) r)[Na + ib]?)), .int .i64 0]) ∧ LastR (uniE la ea lb eb Na) (Na + Nb) r ∧ Below w.heap.size w w' := by
 have hT := TwoS.start w Na ia A n c B m d Nb ib A' n' c' B' m' d';obtain ⟨w1, hw1⟩ : ∃ w1, w1 = (w.alloc (ltsC Na ia A n c B m d)).alloc (ltsC Nb ib A' n' c' B' m' d') := ⟨_, rfl⟩;rw [← hw1] at hT;have hq := hide (areBisimilar_calls (h.below hT.bel zR) (g.below hT.bel zR) c d c' d' (he.below hT.bel zR) hsum);obtain ⟨a0, a1, a2, a3, b0, b1, b2, b3⟩ := hT.cells;have hbel := hide hT.bel;clear hT h g he;go_enter Tryz.func19, Tryz.ntmps19;go_upto_region 1 with fail;rw [show ((w.alloc (.cells #[.int .i64 (Na : Int), .int .i64 (ia : Int), .slice A n c, .slice B m d] 27)).alloc (.cells #[.int .i64 (Nb : Int), .int .i64 (ib : Int), .slice A' n' c', .slice B' m' d'] 27)) = w1 from hw1.symm];replace hw1 := hide hw1;go_wp2_with fail;refine hq.out.mono ?_;rintro e w2 ⟨r, rfl, hL, hb2⟩;have hbF := hide (hbel.out.trans (hb2.mono hbel.out.size));replace hL := hide hL;clear hq hb2 a0 a1 a2 a3 b0 b1 b2 b3;go_wp2_with fail;go_ret2;exact ⟨r, rfl, hL.out, hbF.out⟩
end
end Go.Proofs.YtnhomkmfbngmgaaGreatDoor
namespace Go.Proofs.YtnhomkmfbngmgaaGreatDoor
open Go.ChangeShapes Go.WideShapes Go.ChangeAt Go.RowKit
theorem filter_step {q : Int → Bool} {l : List Int} {k : Nat} {x : Int} (hx : l[k]? = some x) : (l.take (k + 1)).filter q = (l.take k).filter q ++ if q x then [x] else [] := by
 rw [List.take_add_one, hx, List.filter_append]
 cases h : q x <;> simp [h]
structure DelI (G : Int → Bool) (l M : List Int) (k i : Nat) : Prop where
 len : M.length = l.length
 cnt : i = ((l.take k).filter fun x => !G x).length
 lt : i < k
 kept : M.take i = (l.take k).filter fun x => !G x
 later : ∀ q, k ≤ q → M[q]? = l[q]?
theorem DelI.start {G : Int → Bool} {l : List Int} {k : Nat} {x : Int} (hk : k < l.length) (ha : (l.take k).any G = false) (hx : l[k]? = some x) (hg : G x = true) : DelI G l l (k + 1) k := by
 have h1 : (l.take (k + 1)).filter (fun x => !G x) = l.take k := by
  rw [filter_step hx, hg];simp only [Bool.not_true, Bool.false_eq_true, if_false, List.append_nil];exact List.filter_eq_self.2 fun y hy => by rw [Bool.not_eq_true']; exact Bool.eq_false_iff.2 fun c => by rw [List.any_eq_false] at ha; exact ha y hy c
 exact ⟨rfl, by rw [h1, List.length_take]; omega, Nat.lt_succ_self _, by rw [h1], fun _ _ => rfl⟩
theorem DelI.skip {G : Int → Bool} {l M : List Int} {k i : Nat} {x : Int} (h : DelI G l M k i) (hx : l[k]? = some x) (hg : G x = true) : DelI G l M (k + 1) i := by
 have h1 : (l.take (k + 1)).filter (fun x => !G x) = (l.take k).filter (fun x => !G x) := by rw [filter_step hx, hg]; simp
 exact ⟨h.len, by rw [h1]; exact h.cnt, by have := h.lt; omega, by rw [h1]; exact h.kept, fun q hq => h.later q (by omega)⟩
theorem DelI.put {G : Int → Bool} {l M : List Int} {k i : Nat} {x : Int} (h : DelI G l M k i) (hx : l[k]? = some x) (hg : G x = false) : DelI G l (M.set i x) (k + 1) (i + 1) := by
 have h1 : (l.take (k + 1)).filter (fun x => !G x) = (l.take k).filter (fun x => !G x) ++ [x] := by rw [filter_step hx, hg]; simp
 have hk : k < l.length := (List.getElem?_eq_some_iff.1 hx).1;have hil : i < M.length := by rw [h.len]; have := h.lt; omega
 refine ⟨by rw [List.length_set]; exact h.len, by rw [h1, List.length_append, ← h.cnt]; rfl, by have := h.lt; omega, ?_, fun q hq => ?_⟩
 ·rw [List.take_add_one, List.getElem?_set_self hil, h1, ← h.kept, List.take_set_of_le zR]
  rfl
 ·rw [List.getElem?_set_ne (by have := h.lt; omega)]
  exact h.later q (by omega)
open Go.Sort
def numBR (s : List Bool) : Nat := (s.filter id).length
theorem numBR_le (s : List Bool) : numBR s ≤ s.length := List.length_filter_le _ _
theorem numBR_set {s : List Bool} : ∀ {v : Nat}, v < s.length → inS s v = false → numBR (s.set v true) = numBR s + 1 := by
 induction s with
 | nil => intro v h; simp at h
 | cons b s ih =>
  intro v hv h
  cases v with
  | zero =>
   have hb : b = false := by simpa [inS] using h
   subst hb
   simp [numBR]
  | succ v =>
   have h1 := ih (v := v) (by simpa using hv) (by simpa [inS] using h);unfold numBR at h1 ⊢
   cases b <;> simp [List.filter_cons] at h1 ⊢ <;> omega
def ReachE (es : List Ed) (ini : Int) (k : Nat) : Prop := ∃ m, lay (srcE [ini]) (arcE true es) m k
noncomputable def reachB (es : List Ed) (ini : Int) (k : Nat) : Bool := open Classical in decide (ReachE es ini k)
theorem reachB_true {es : List Ed} {ini : Int} {k : Nat} : reachB es ini k = true ↔ ReachE es ini k := by
 unfold reachB
 simp
noncomputable def reachF (N : Nat) (es : List Ed) (ini : Int) : List Int := ((List.range N).filter (reachB es ini)).map Int.ofNat
theorem ReachE.step {es : List Ed} {ini : Int} {a k : Nat} (h : ReachE es ini a) (ha : arcE true es a k) : ReachE es ini k := by
 obtain ⟨m, hm⟩ := h;exact ⟨m + 1, .inr ⟨a, hm, ha⟩⟩
theorem reach_sub {es : List Ed} {ini : Nat} {s : List Bool} (h0 : inS s ini = true) (hc : ∀ a k, arcE true es a k → inS s a = true → inS s k = true) {k : Nat} (h : ReachE es (ini : Int) k) : inS s k = true := by
 obtain ⟨m, hm⟩ := h
 induction m generalizing k with
 | zero =>
  have : (k : Int) ∈ [(ini : Int)] := hm;have : k = ini := by simp at this; omega
  rw [this]; exact h0
 | succ m ih =>
  rcases hm with hm | ⟨a, ha, hk⟩
  ·exact ih hm
  ·exact hc a k hk (ih ha)
structure SeenR (N : Nat) (es : List Ed) (ini : Nat) (old : List Bool) (j : Nat) (mo : Bool) (s : List Bool) : Prop where
 len : s.length = N
 start : inS s ini = true
 sound : ∀ k, inS s k = true → ReachE es (ini : Int) k
 same : mo = false → s = old
 more : mo = true → numBR old < numBR s
 grow : numBR old ≤ numBR s
 closed : mo = false → ∀ e ∈ es.take j, ∀ a k : Nat, e.1 = (a : Int) → e.2.2 = (k : Int) → inS s a = true → inS s k = true
theorem SeenR.begin {N : Nat} {es : List Ed} {ini : Nat} {s : List Bool} (h1 : s.length = N) (h2 : inS s ini = true) (h3 : ∀ k, inS s k = true → ReachE es (ini : Int) k) : SeenR N es ini s 0 false s :=
 ⟨h1, h2, h3, fun _ => rfl, (fun h => by cases h), zR, fun _ e he => by simp at he⟩
theorem take_mem_succ {α : Type} {l : List α} {j : Nat} {e x : α} (hx : l[j]? = some e) (h : x ∈ l.take (j + 1)) : x ∈ l.take j ∨ x = e := by
 rw [List.take_add_one, hx, List.mem_append] at h
 rcases h with h | h
 ·exact .inl h
 ·simp at h; exact .inr h
theorem SeenR.skip {N : Nat} {es : List Ed} {ini : Nat} {old s : List Bool} {j : Nat} {mo : Bool} {f tg : Nat} {lb : Int} (h : SeenR N es ini old j mo s) (hx : es[j]? = some ((f : Int), lb, (tg : Int))) (hs : inS s f = true → inS s tg = true) : SeenR N es ini old (j + 1) mo s :=
 ⟨h.len, h.start, h.sound, h.same, h.more, h.grow, fun hm e he a k h1 h2 h3 => by
  rcases take_mem_succ hx he with h4 | rfl
  ·exact h.closed hm e h4 a k h1 h2 h3
  ·have : f = a := by dsimp only at h1; omega
   have : tg = k := by dsimp only at h2; omega
   subst_vars
   exact hs h3⟩
theorem SeenR.mark {N : Nat} {es : List Ed} {ini : Nat} {old s : List Bool} {j : Nat} {mo : Bool} {f tg : Nat} {lb : Int} (h : SeenR N es ini old j mo s) (hx : es[j]? = some ((f : Int), lb, (tg : Int))) (hf : inS s f = true) (ht : inS s tg = false) (htn : tg < N) : SeenR N es ini old (j + 1) true (s.set tg true) := by
 have htl : tg < s.length := by rw [h.len]; exact htn
 have hn := numBR_set htl ht;refine ⟨by rw [List.length_set]; exact h.len, ?_, fun k hk => ?_, (fun h => by cases h), fun _ => by have := h.grow; omega, by have := h.grow; omega, (fun h => by cases h)⟩
 ·rw [inS_set htl]
  split
  ·rfl
  ·exact h.start
 ·rw [inS_set htl] at hk
  split at hk
  ·rename_i e
   subst e;exact (h.sound f hf).step ⟨_, List.mem_of_getElem? hx, by simp⟩
  ·exact h.sound k hk
theorem SlB.cell' {w : World} {lo hi n b off : Nat} {l : List Bool} (h : SlB w lo hi (some ⟨b, off, none⟩) n l) {k : Nat} (hk : k < n) : w.cell? ⟨b, off + k, none⟩ = some (.bool (inS l k)) ∧ w.frozen? ⟨b, off + k, none⟩ = false ∧ lo ≤ b ∧ b < hi ∧ b < w.heap.size := by
 obtain ⟨b', off', e, g1, g2, g3, -, h1, h2⟩ := h.get hk
 cases e
 exact ⟨h1, h2, g1, g2, g3⟩
theorem edges_inB {st ini : Int} {ls : List ByteArray} {es : List Ed} (h : ltsV (st, ini, ls, es) = true) : ∀ e ∈ es, (0 ≤ e.1 ∧ e.1 < st) ∧ (0 ≤ e.2.2 ∧ e.2.2 < st) := by
 rintro ⟨f, lb, tg⟩ he;obtain ⟨k, hk⟩ := List.getElem?_of_mem he;have := edge_of h hk;have h1 := this.1;have h2 := this.2.1;exact ⟨by dsimp only at *; omega, by dsimp only at *; omega⟩
theorem l11Reach_calls (bt : Nat) (x : CL) (d : DL) (w : World) (h : LtsAt w bt x d) (hval : ltsV d = true) :
  Calls Tryz.prog 171 #[.pointer (some ⟨bt, 0, none⟩)] w fun e w' => ∃ A n c, e = .returned (.slice A n c) ∧ SlI w' w.heap.size w'.heap.size A n (reachF d.1.toNat d.2.2.2 d.2.1) ∧ n ≤ 40 ∧ Below w.heap.size w w' := by
 obtain ⟨s0, s1, v2, v3⟩ := x;obtain ⟨st, ini, ls, es⟩ := d;have hst := lts_boundsB hval;have hed0 := edges_inB hval;obtain ⟨⟨e0, e1, ⟨A2, n2, k2, e2, hn2, hs2, t2⟩, ⟨A3, n3, k3, e3, hn3, t3⟩⟩, htot, hbt, c0, c1, -, c3⟩ := h;dsimp only at *;subst e0 e1 e2 e3;obtain ⟨N, rfl⟩ : ∃ N : Nat, s0 = (N : Int) := ⟨s0.toNat, by omega⟩;obtain ⟨ini, rfl⟩ : ∃ k : Nat, s1 = (k : Int) := ⟨s1.toNat, by omega⟩;rw [Int.toNat_natCast];have hN1 : 1 ≤ N := by omega
 have hN2 : N ≤ 40 := by omega
 have hini : ini < N := by omega
 have l3 := hide t3.len;have hes : n3 ≤ 1048576 := by rw [← l3.out]; exact Nat.le_trans (totL_edg ((N : Int), (ini : Int), ls, es)) htot
 have hE := hide elem_int64;have hmk := run_make_bool N (by omega);replace t3 := hide t3;replace hed0 := hide hed0;have hs0 := (SlB.made w N).put hini true;have hlen0 : ((setOf N fun _ => false).set ini true).length = N := by rw [List.length_set, setOf_len]
 have hst0 : inS ((setOf N fun _ => false).set ini true) ini = true := by rw [inS_set (by rw [setOf_len]; exact hini), if_pos rfl]
 have hso0 : ∀ k, inS ((setOf N fun _ => false).set ini true) k = true → ReachE es (ini : Int) k := fun k hk => by
  rw [inS_set (by rw [setOf_len]; exact hini)] at hk
  split at hk
  ·rename_i e
   subst e;exact ⟨0, by show (ini : Int) ∈ [(ini : Int)]; simp⟩
  ·rw [inS_setOf] at hk
   simp at hk
 generalize ((setOf N fun _ => false).set ini true) = s0 at *;have hb0 : Below w.heap.size w ((w.alloc (.cells (madeCells #[.bool false] N) 4)).setCell ⟨w.heap.size, 0 + ini, none⟩ (.bool true)) := (bR.alloc zR _).setCell (p := ⟨w.heap.size, 0 + ini, none⟩) zR _;have hcl := ((SlB.made w N).cell' hini);have f0 := hcl.1;have f1 := hcl.2.1;have d1 : (w.alloc (.cells (madeCells #[.bool false] N) 4)).cell? ⟨bt, 1, none⟩ = some (.int .i64 (ini : Int)) := (((Below.refl w.heap.size w).alloc zR (.cells (madeCells #[.bool false] N) 4)).cell (p := ⟨bt, 1, none⟩) hbt).trans c1;rw [Nat.zero_add] at f0 f1 hb0 hs0;have hiI : (ini : Int) < (N : Int) := by omega
 rw [World.setCell_alloc_at (w := w) (madeCells #[.bool false] N) 4 w.heap.size ini (.bool true) rfl] at hs0 hb0;have hs0' := hide hs0;have hb0' := hide hb0;clear hs0 hb0 hcl htot hs2 hn2 hn3 t2 hval hst;go_enter Tryz.func171, Tryz.ntmps171;go_upto_region 4 with fail;clear f0 f1 d1;generalize (w.alloc (.cells ((madeCells #[.bool false] N).setIfInBounds ini (.bool true)) 4)) = W0 at *;have hzw := hb0'.out.size
 go_loopg [4] (N + 1) (fun G b wr => ∃ (s : List Bool) (mo : Bool), b = .bool mo ∧ SlB wr w.heap.size (w.heap.size + 1) (some ⟨w.heap.size, 0, none⟩) N s ∧ Hid (s.length = N ∧ inS s ini = true ∧ ∀ k, inS s k = true → ReachE es (ini : Int) k) ∧ Hid (mo = false → ∀ a k : Nat, arcE true es a k → inS s a = true → inS s k = true) ∧ Below w.heap.size w wr ∧ Hid (N + (if mo = true then 1 else 0) ≤ G + numBR s))
 case atStart => exact ⟨s0, true, rfl, hs0'.out, ⟨hlen0, hst0, hso0⟩, (fun h => by cases h), hb0'.out, by show _ ≤ _; rw [if_pos rfl]; omega⟩
 case round =>
  obtain ⟨wo, rfl⟩ : ∃ wo : World, wo = wr := ⟨_, rfl⟩;clear hs0' hb0' hlen0 hst0 hso0;obtain ⟨s, mo, rfl, hs, hR, hC, hb1, hG⟩ := hrel
  cases mo with
  | true =>
   have hg1 := hG.out;rw [if_pos rfl] at hg1;have hnl := numBR_le s;rw [hR.out.1] at hnl;obtain ⟨G2, rfl⟩ : ∃ G2, gk = G2 + 1 := ⟨gk - 1, by omega⟩;have hbeg := hide (SeenR.begin hR.out.1 hR.out.2.1 hR.out.2.2);replace hs := hide hs;replace hb1 := hide hb1;clear hR hC hG;go_upto_region 7 with fail
   go_loopw [4, 5] (fun b i wx => ∃ (j : Nat) (mo : Bool) (t : List Bool), j ≤ n3 ∧ b = .bool mo ∧ i = .int .i64 (j : Nat) ∧ SlB wx w.heap.size (w.heap.size + 1) (some ⟨w.heap.size, 0, none⟩) N t ∧ Hid (SeenR N es ini s j mo t) ∧ Below w.heap.size w wx) (fun _ i _ => n3 - (intOf i).toNat)
   case atStart => exact ⟨0, false, s, Nat.zero_le _, rfl, rfl, hs.out, hbeg, hb1.out⟩
   case round =>
    clear hs hbeg hb1;obtain ⟨j, mo, t, hj, rfl, rfl, hs, hS, hb⟩ := hrel;have y3 := (hb.cell (p := ⟨bt, 3, none⟩) hbt).trans c3
    by_cases hlt : j < n3
    ·obtain ⟨b, off, f, lb, tg, rfl, -, -, g3, hx, p0, p1, p2, -, -, -⟩ := SlE.get t3.out hlt
     replace p0 := (hb.cell g3).trans p0;replace p1 := (hb.cell (p := ⟨b, off + j * 3 + 1, none⟩) g3).trans p1;replace p2 := (hb.cell (p := ⟨b, off + j * 3 + 2, none⟩) g3).trans p2;have hed := hed0.out _ (List.mem_of_getElem? hx);dsimp only at hed;obtain ⟨fn, rfl⟩ : ∃ fn : Nat, f = (fn : Int) := ⟨f.toNat, by omega⟩;obtain ⟨tn, rfl⟩ : ∃ tn : Nat, tg = (tn : Int) := ⟨tg.toNat, by omega⟩;have hfn : fn < N := by omega
     have htn : tn < N := by omega
     have hfI : (fn : Int) < (N : Int) := by omega
     have htI : (tn : Int) < (N : Int) := by omega
     obtain ⟨q0, -, -, -, -⟩ := hs.cell' hfn;obtain ⟨r0, r1, -, -, -⟩ := hs.cell' htn;rw [Nat.zero_add] at q0 r0 r1;have hI0 : (0 : Int) ≤ (j : Int) := by omega
     have hI1 : (j : Int) < (n3 : Int) := by omega
     cases e1 : inS t fn with
     | false =>
      have hn := hide (hS.out.skip hx (fun h => by rw [e1] at h; cases h));rw [e1] at q0;replace hs := hide hs;replace hb := hide hb;clear hx hed e1 hS;go_wp2_with fail;go_roundw
      case rel => exact ⟨j + 1, mo, t, by omega, rfl, by go_num, hs.out, hn, hb.out⟩
      case measure => simp [intOf]; omega
     | true =>
      rw [e1] at q0
      cases e2 : inS t tn with
      | true =>
       have hn := hide (hS.out.skip hx (fun _ => e2));rw [e2] at r0;replace hs := hide hs;replace hb := hide hb;clear hx hed e1 hS e2;go_wp2_with fail;go_roundw
       case rel => exact ⟨j + 1, mo, t, by omega, rfl, by go_num, hs.out, hn, hb.out⟩
       case measure => simp [intOf]; omega
      | false =>
       have hn := hide (hS.out.mark hx e1 e2 htn);rw [e2] at r0;have hput := hs.put htn true;rw [Nat.zero_add] at hput;replace hput := hide hput;have hbp := hide (hb.setCell (p := ⟨w.heap.size, tn, none⟩) zR (.bool true));clear hx hed e1 hS e2 hs hb;go_wp2_with fail;go_roundw
       case rel => exact ⟨j + 1, true, _, by omega, rfl, by go_num, hput.out, hn, hbp.out⟩
       case measure => simp [intOf]; omega
    ·have hjn : j = n3 := by omega
     subst hjn;have hS' := hS.out;have hR : Hid (t.length = N ∧ inS t ini = true ∧ ∀ k, inS t k = true → ReachE es (ini : Int) k) := ⟨hS'.len, hS'.start, hS'.sound⟩;have hC : Hid (mo = false → ∀ a k : Nat, arcE true es a k → inS t a = true → inS t k = true) := fun hm a k ha h1 => by
      obtain ⟨e, he, h2⟩ := ha;simp only [if_true] at h2;exact hS'.closed hm e (by rw [List.take_of_length_le (by rw [l3.out]; exact zR)]; exact he) a k h2.1 h2.2 h1
     have hG' : Hid (N + (if mo = true then 1 else 0) ≤ G2 + numBR t) := by
      show _ ≤ _
      cases mo with
      | false => have := hS'.grow; rw [if_neg (by decide)]; omega
      | true => have := hS'.more rfl; rw [if_pos rfl]; omega
     replace hs := hide hs;replace hb := hide hb;clear hS hS';go_wp2_with fail
     go_roundg G2
     case measure => omega
     case rel => exact ⟨t, mo, rfl, hs.out, hR, hC, hb.out, hG'⟩
  | false =>
   have hmk2 : ∀ k, k < N → inS s k = reachB es (ini : Int) k := fun k hk => by
    cases e1 : inS s k with
    | true => exact (reachB_true.2 (hR.out.2.2 k e1)).symm
    | false =>
     cases e2 : reachB es (ini : Int) k with
     | false => rfl
     | true => rw [reach_sub hR.out.2.1 (hC.out rfl) (reachB_true.1 e2)] at e1; cases e1
   replace hmk2 := hide hmk2;replace hs := hide hs;replace hb1 := hide hb1;have hbA := hide (hb1.out.alloc hb1.out.size (.cells #[] 2));have hO0 := hide (Own.made (f := iv) (size := 1) wo 2 zR);clear hR hC hG hmk c1;go_upto_region 14 with fail
   go_loopw [6, 7] (fun v i wr => ∃ (k : Nat) (A : Option Addr) (m c : Nat), k ≤ N ∧ i = .int .i64 (k : Nat) ∧ v = .slice A m c ∧ m ≤ k ∧ Hid (Own 1 iv wr wo.heap.size 2 A m c (((List.range k).filter (reachB es (ini : Int))).map Int.ofNat)) ∧ Below wo.heap.size wo wr) (fun _ i _ => N - (intOf i).toNat)
   case atStart => exact ⟨0, _, 0, 0, Nat.zero_le _, rfl, rfl, Nat.zero_le _, hO0, bR.alloc zR _⟩
   case round =>
    clear hO0 hbA;obtain ⟨k, A, m, c, hk, rfl, rfl, hm, hown, hb⟩ := hrel;have hbw := hb1.out.trans (hb.mono hb1.out.size);have y0 := (hbw.cell (p := ⟨bt, 0, none⟩) hbt).trans c0
    by_cases hlt : k < N
    ·have hkI : (k : Int) < (N : Int) := by omega
     have hs2 := (hs.out.top).below hb (.inl zR);obtain ⟨q0, -, -, -, -⟩ := SlB.cell' hs2 hlt;rw [Nat.zero_add, hmk2.out k hlt] at q0;have hst : ((List.range (k + 1)).filter (reachB es (ini : Int))).map Int.ofNat = ((List.range k).filter (reachB es (ini : Int))).map Int.ofNat ++ (if reachB es (ini : Int) k = true then [(k : Int)] else []) := by
      rw [List.range_succ, List.filter_append, List.map_append]
      congr 1
      by_cases h : reachB es (ini : Int) k = true <;> simp [List.filter_cons, h]
     have hza : ∀ o, wo.heap.size ≤ (wr.alloc o).heap.size := fun o => by rw [World.size_alloc]; have := hb.size; omega
     have hz := hb.size
     cases e : reachB es (ini : Int) k with
     | true =>
      rw [e] at q0;rw [e, if_pos rfl] at hst;replace hst := hide hst;replace hb := hide hb;clear hs2 hbw e;go_wp2_with (first | (at_builtin; (with_reducible refine wpList_app rfl (.tmp 77) (.tmp 79) rfl hE.out flat_iv rfl (hown.out.alloc _) rfl (Sl.lit1' wr 2 (k : Int) _ rfl 1 _ ?c0) ?c1 (hza _) ?_); rotate_right; intro A5 c5 w5 hown5 hgr5 hb5 _))
      case c0 => rfl
      case c1 => omega
      have hb6 := hide ((hb.out.alloc hz (.cells #[.int .i64 (k : Int)] 2)).trans hb5);go_roundw
      case rel => exact ⟨k + 1, A5, m + 1, c5, by omega, by go_num, rfl, by omega, by rw [hst.out]; exact hown5, hb6.out⟩
      case measure => simp [intOf]; omega
     | false =>
      rw [e] at q0;rw [e, if_neg (by decide), List.append_nil] at hst;replace hst := hide hst;replace hb := hide hb;clear hs2 hbw e;go_wp2_with fail;go_roundw
      case rel => exact ⟨k + 1, A, m, c, by omega, by go_num, rfl, by omega, by rw [hst.out]; exact hown.out, hb.out⟩
      case measure => simp [intOf]; omega
    ·have hkn : k = N := by omega
     subst hkn;replace hbw := hide hbw;clear hb;go_wp2_with fail;go_ret;exact ⟨A, m, c, rfl, (hown.out.sl flat_iv).more hb1.out.size zR, by omega, hbw.out⟩
end Go.Proofs.YtnhomkmfbngmgaaGreatDoor
namespace Go.Proofs.YtnhomkmfbngmgaaGreatDoor
open Go.ChangeShapes Go.WideShapes Go.ChangeAt Go.RowKit
def FstI (l : List Int) (v i : Int) : Prop := (i = -1 ∧ v ∉ l) ∨ ∃ k : Nat, i = k ∧ k < l.length ∧ l[k]? = some v
open Go.Lib Go.Sort
structure AlcW (wb w : World) (J : List ByteArray) (g : Option Nat) (q : Option (Option Addr × Nat × Nat)) : Prop where
 below : Below wb.heap.size wb w
 box : ∀ b, g = some b → wb.heap.size ≤ b ∧ LtsBox w b 0 0 none 0 0 none 0 0
 lab : ∀ h, q = some h → Own 1 strv w wb.heap.size 9 h.1 h.2.1 h.2.2 J ∧ ∀ b, g = some b → some b ≠ (Value.slice h.1 h.2.1 h.2.2).ownBlock
section
variable {wb w w' : World} {J : List ByteArray} {g : Option Nat} {q : Option (Option Addr × Nat × Nat)}
theorem AlcW.start (wb : World) (J : List ByteArray) : AlcW wb wb J none none := ⟨bR, fun b e => (by cases e), fun h e => (by cases e)⟩
theorem AlcW.drew (h : AlcW wb w J g q) : AlcW wb w.drew J g q := ⟨h.below.drew, h.box, fun k e => ⟨(h.lab k e).1.keep fun _ _ => rfl, (h.lab k e).2⟩⟩
theorem AlcW.alloc (h : AlcW wb w J none q) : AlcW wb (w.alloc (.cells #[.int .i64 0, .int .i64 0, .slice none 0 0, .slice none 0 0] 27)) J (some w.heap.size) q where
 below := h.below.alloc h.below.size _
 box := fun b e => by
  cases e
  exact ⟨h.below.size, heap_alloc_new w _⟩
 lab := fun k e => ⟨(h.lab k e).1.alloc _, fun b e2 e3 => by
  cases e2;have := ((h.lab k e).1.lt _ e3.symm).2
  omega⟩
theorem AlcW.keep (h : AlcW wb w J g q) (hb : Below w.heap.size w w') : AlcW wb w' J g q where
 below := h.below.trans (hb.mono h.below.size)
 box := fun b e => ⟨(h.box b e).1, (h.box b e).2.below hb (h.box b e).2.lt⟩
 lab := fun k e => ⟨(h.lab k e).1.below hb zR, (h.lab k e).2⟩
end
structure LtmP (w wr : World) (g9 e0 : Nat) (s i : Int) (A1 : Option Addr) (n2 c1 : Nat) (J : List ByteArray) (A3 : Option Addr) (k c3 : Nat) (E : List Ed) : Prop where
 box : LtsBox wr g9 s i A1 n2 c1 A3 k c3
 res : LtsBox wr w.heap.size 0 0 none 0 0 none 0 0
 labs : Own 1 strv wr (w.heap.size + 1) 9 A1 n2 c1 J
 eds : Own 3 ev wr e0 84 A3 k c3 E
 bel : Below w.heap.size w wr
 base : w.heap.size < g9 ∧ g9 < e0
 lt : ∀ q, (Value.slice A1 n2 c1).ownBlock = some q → q ≠ g9 ∧ q < e0
 top : e0 ≤ wr.heap.size
section
variable {w wr w' : World} {g9 e0 : Nat} {s i : Int} {A1 : Option Addr} {n2 c1 : Nat} {J : List ByteArray} {A3 : Option Addr} {k c3 : Nat} {E : List Ed}
theorem LtmP.below (h : LtmP w wr g9 e0 s i A1 n2 c1 J A3 k c3 E) (hb : Below wr.heap.size wr w') : LtmP w w' g9 e0 s i A1 n2 c1 J A3 k c3 E where
 box := h.box.below hb h.box.lt
 res := h.res.below hb h.res.lt
 labs := h.labs.below hb zR
 eds := h.eds.below hb zR
 bel := h.bel.trans (hb.mono h.bel.size)
 base := h.base
 lt := h.lt
 top := Nat.le_trans h.top hb.size
theorem LtmP.same (h : LtmP w wr g9 e0 s i A1 n2 c1 J A3 k c3 E) {E' : List Ed} (hg : wr.grownBy w' (Value.slice A3 k c3).ownBlock) (ho : Own 3 ev w' e0 84 A3 k c3 E') : LtmP w w' g9 e0 s i A1 n2 c1 J A3 k c3 E' := by
 have hb0 := h.base;have ha : ∀ q, q < e0 → some q ≠ (Value.slice A3 k c3).ownBlock := fun q hq e => by
  have := (h.eds.lt q e.symm).1;omega
 exact ⟨h.box.grown hg (ha _ (by omega)), h.res.grown hg (ha _ (by omega)), h.labs.keep fun q hq => hg.block q (h.labs.lt q hq).2 (ha q (h.lt q hq).2), ho, h.bel.grown hg h.bel.size fun q e => by have := (h.eds.lt q e).1; omega, hb0, h.lt, Nat.le_trans h.top hg.size⟩
theorem LtmP.grown (h : LtmP w wr g9 e0 s i A1 n2 c1 J A3 k c3 E) {A7 : Option Addr} {k7 c7 : Nat} {E' : List Ed} (hg : wr.grownBy w' (Value.slice A3 k c3).ownBlock) (ho : Own 3 ev w' e0 84 A7 k7 c7 E') : LtsBox w' g9 s i A1 n2 c1 A3 k c3 ∧ LtmP w (w'.setCell ⟨g9, 3, none⟩ (.slice A7 k7 c7)) g9 e0 s i A1 n2 c1 J A7 k7 c7 E' := by
 have hb0 := h.base;have ha : ∀ q, q < e0 → some q ≠ (Value.slice A3 k c3).ownBlock := fun q hq e => by
  have := (h.eds.lt q e.symm).1;omega
 have hbx := h.box.grown hg (ha _ (by omega));have hrs := h.res.grown hg (ha _ (by omega));have hO : Only g9 (g9 + 1) w' (w'.setCell ⟨g9, 3, none⟩ (.slice A7 k7 c7)) := (Only.refl g9 (g9 + 1) w').setCell (p := ⟨g9, 3, none⟩) zR (Nat.lt_succ_self _) _;have hbel : Below w.heap.size w w' := h.bel.grown hg h.bel.size fun q e => by have := (h.eds.lt q e).1; omega
 refine ⟨hbx, hbx.set3, hrs.only hO (.inl (by omega)), ?_, ?_, Only.below hbel hO (by omega) hbel.size, hb0, h.lt, by rw [World.size_setCell]; exact Nat.le_trans h.top hg.size⟩
 ·have hl : Own 1 strv w' (w.heap.size + 1) 9 A1 n2 c1 J := h.labs.keep fun q hq => hg.block q (h.labs.lt q hq).2 (ha q (h.lt q hq).2)
  exact hl.asideL (fun e => (h.lt _ e.symm).1 rfl) _
 ·exact ho.asideL (fun e => by have := (ho.lt _ e.symm).1; omega) _
theorem LtmP.done (h : LtmP w wr g9 e0 s i A1 n2 c1 J A3 k c3 E) {wf : World} (a b c d : Value)
  (hw : wf = (((wr.setCell ⟨w.heap.size, 0, none⟩ a).setCell ⟨w.heap.size, 1, none⟩ b).setCell ⟨w.heap.size, 2, none⟩ c).setCell ⟨w.heap.size, 3, none⟩ d) :
  SlS wf w.heap.size wf.heap.size A1 n2 J ∧ Own 3 ev wf w.heap.size 84 A3 k c3 E ∧ Below w.heap.size w wf := by
 have hb0 := h.base;have n1 : some w.heap.size ≠ (Value.slice A1 n2 c1).ownBlock := fun e => by have := (h.labs.lt _ e.symm).1; omega
 have n3 : some w.heap.size ≠ (Value.slice A3 k c3).ownBlock := fun e => by have := (h.eds.lt _ e.symm).1; omega
 have o1 := (Only.refl w.heap.size (w.heap.size + 1) wr).setCell (p := ⟨w.heap.size, 0, none⟩) zR (Nat.lt_succ_self _) a;have o2 := o1.setCell (p := ⟨w.heap.size, 1, none⟩) zR (Nat.lt_succ_self _) b;have o3 := o2.setCell (p := ⟨w.heap.size, 2, none⟩) zR (Nat.lt_succ_self _) c;have o4 := o3.setCell (p := ⟨w.heap.size, 3, none⟩) zR (Nat.lt_succ_self _) d;rw [hw];refine ⟨?_, ?_, Only.below h.bel o4 zR h.bel.size⟩
 ·exact (((((h.labs.asideL n1 _).asideL n1 _).asideL n1 _).asideL n1 _).sl flat_strv).more (by omega) zR
 ·exact (((((h.eds.asideL n3 _).asideL n3 _).asideL n3 _).asideL n3 _)).sink (by omega)
theorem AlcW.fill {wb w1 : World} {A : Option Addr} {n c g : Nat} (h : AlcW wb w1 J (some g) (some (A, n, c))) (hr : LtsBox wb w.heap.size 0 0 none 0 0 none 0 0) (hw : w.heap.size + 1 ≤ wb.heap.size) (hbel : Below w.heap.size w wb) (s i : Int) {e0 : Nat} (he0 : e0 = w1.heap.size) :
  LtmP w ((((w1.setCell ⟨g, 0, none⟩ (.int .i64 s)).setCell ⟨g, 1, none⟩ (.int .i64 i)).setCell ⟨g, 2, none⟩ (.slice A n c)).setCell ⟨g, 3, none⟩ (.slice none 0 0)) g e0 s i A n c J none 0 0 [] := by
 obtain ⟨hg, hx⟩ := h.box g rfl;obtain ⟨hl, hne⟩ := h.lab _ rfl;have hne := hne g rfl;have hgl := hx.lt;have x0 : (w1.setCell ⟨g, 0, none⟩ (.int .i64 s)).heap[g]? = _ := heap_setCell_same w1 g 0 _ _ _ hx;have x1 := heap_setCell_same _ g 1 _ _ (.int .i64 i) x0;have x2 := heap_setCell_same _ g 2 _ _ (.slice A n c) x1;have x3 := heap_setCell_same _ g 3 _ _ (.slice none 0 0) x2;have o1 := (Only.refl g (g + 1) w1).setCell (p := ⟨g, 0, none⟩) zR (Nat.lt_succ_self _) (.int .i64 s);have o2 := o1.setCell (p := ⟨g, 1, none⟩) zR (Nat.lt_succ_self _) (.int .i64 i);have o3 := o2.setCell (p := ⟨g, 2, none⟩) zR (Nat.lt_succ_self _) (.slice A n c);have o4 := o3.setCell (p := ⟨g, 3, none⟩) zR (Nat.lt_succ_self _) (.slice none 0 0);have hbw : Below w.heap.size w w1 := hbel.trans (h.below.mono (by omega));exact ⟨x3, (hr.below h.below (by omega)).only o4 (.inl (by omega)), ((((hl.asideL hne _).asideL hne _).asideL hne _).asideL hne _).sink (by omega), Own.nil_ _ _ _, Only.below hbw o4 (by omega) hbw.size, ⟨by omega, by omega⟩, fun q hq => ⟨fun e => hne (by rw [← e]; exact hq.symm), by have := (hl.lt q hq).2; omega⟩, by simp [he0]⟩
end
def posZ (l : List Int) (v : Int) : Int := if v ∈ l then ((l.idxOf v : Nat) : Int) else -1
theorem FstI.pos {l : List Int} {v i : Int} (hn : l.Nodup) (h : FstI l v i) : i = posZ l v := by
 unfold posZ
 rcases h with ⟨rfl, h1⟩ | ⟨k, rfl, hk, hx⟩
 ·rw [if_neg h1]
 ·have hm := List.mem_of_getElem? hx
  rw [if_pos hm];have h2 : l.idxOf v < l.length := List.idxOf_lt_length_iff.2 hm;have h3 : l[l.idxOf v] = v := List.getElem_idxOf h2;have h4 : l[k] = v := by
   rw [List.getElem?_eq_getElem hk] at hx;exact Option.some.inj hx
  have := (List.getElem_inj hn).1 (h4.trans h3.symm);omega
theorem posZ_at {l : List Int} (hn : l.Nodup) {v : Int} {k : Nat} : posZ l v = (k : Int) ↔ l[k]? = some v := by
 unfold posZ
 constructor
 ·intro h
  by_cases hm : v ∈ l
  ·rw [if_pos hm] at h
   have h2 : l.idxOf v < l.length := List.idxOf_lt_length_iff.2 hm;have h3 : l[l.idxOf v] = v := List.getElem_idxOf h2;have : l.idxOf v = k := by omega
   subst this;rw [List.getElem?_eq_getElem h2, h3]
  ·rw [if_neg hm] at h
   omega
 ·intro hx
  have hm := List.mem_of_getElem? hx;rw [if_pos hm];have h2 : l.idxOf v < l.length := List.idxOf_lt_length_iff.2 hm;have h3 : l[l.idxOf v] = v := List.getElem_idxOf h2;obtain ⟨hk, h4⟩ := List.getElem?_eq_some_iff.1 hx;have := (List.getElem_inj hn).1 (h4.trans h3.symm);omega
section
variable {α : Type} {size : Nat} {f : α → List Value} {w w' : World} {base n c : Nat} {e : TypeId} {A : Option Addr} {l : List α}
theorem Own.typedK (h : Own size f w base e A n c l) {g : Nat} (hg : (Value.slice A n c).ownBlock = some g) : base ≤ g ∧ g < w.heap.size ∧ ∃ cur, w.heap[g]? = some (.cells cur e (0, 0)) := by
 refine ⟨(h.lt g hg).1, (h.lt g hg).2, ?_⟩
 rcases h.2.2 with ⟨hv, _⟩ | ⟨b, cap, cur, hv, _, hb, _⟩
 ·rw [hv] at hg; cases hg
 ·rw [hv] at hg
  obtain rfl : b = g := by injection hg
  exact ⟨cur, hb⟩
theorem Own.otherK (h : Own size f w base e A n c l) {b : Nat} {cur : Array Value} {t : TypeId} {z : Nat × Nat} (hb : w.heap[b]? = some (.cells cur t z)) (ht : t ≠ e) : some b ≠ (Value.slice A n c).ownBlock := fun e1 => by
 obtain ⟨-, -, cu, h1⟩ := h.typedK e1.symm;rw [hb] at h1;injection h1 with h1;injection h1 with _ h1;exact ht h1
end
structure KeeW (w wr : World) (bo : Nat) (s i : Int) (A1 : Option Addr) (n2 c1 : Nat) (J : List ByteArray) (A3 : Option Addr) (k c3 : Nat) (E : List Ed) : Prop where
 box : LtsBox wr bo s i A1 n2 c1 A3 k c3
 res : LtsBox wr w.heap.size 0 0 none 0 0 none 0 0
 labs : Own 1 strv wr (w.heap.size + 1) 9 A1 n2 c1 J
 eds : Own 3 ev wr (w.heap.size + 1) 84 A3 k c3 E
 bel : Below w.heap.size w wr
 base : w.heap.size < bo
section
variable {w wr w' : World} {bo : Nat} {s i : Int} {A1 : Option Addr} {n2 c1 : Nat} {J : List ByteArray} {A3 : Option Addr} {k c3 : Nat} {E : List Ed}
theorem KeeW.below (h : KeeW w wr bo s i A1 n2 c1 J A3 k c3 E) (hb : Below wr.heap.size wr w') : KeeW w w' bo s i A1 n2 c1 J A3 k c3 E where
 box := h.box.below hb h.box.lt
 res := h.res.below hb h.res.lt
 labs := h.labs.below hb zR
 eds := h.eds.below hb zR
 bel := h.bel.trans (hb.mono h.bel.size)
 base := h.base
theorem KeeW.alloc (h : KeeW w wr bo s i A1 n2 c1 J A3 k c3 E) (o : Obj) : KeeW w (wr.alloc o) bo s i A1 n2 c1 J A3 k c3 E := h.below (bR.alloc zR o)
theorem KeeW.drew (h : KeeW w wr bo s i A1 n2 c1 J A3 k c3 E) : KeeW w wr.drew bo s i A1 n2 c1 J A3 k c3 E := h.below bR.drew
theorem KeeW.grown (h : KeeW w wr bo s i A1 n2 c1 J A3 k c3 E) {A7 : Option Addr} {k7 c7 : Nat} {E' : List Ed} (hg : wr.grownBy w' (Value.slice A3 k c3).ownBlock) (ho : Own 3 ev w' (w.heap.size + 1) 84 A7 k7 c7 E') : LtsBox w' bo s i A1 n2 c1 A3 k c3 ∧ KeeW w (w'.setCell ⟨bo, 3, none⟩ (.slice A7 k7 c7)) bo s i A1 n2 c1 J A7 k7 c7 E' := by
 have hb0 := h.base;have hbx := h.box.grown hg (h.eds.otherK h.box (by decide));have hrs := h.res.grown hg (h.eds.otherK h.res (by decide));have hO : Only bo (bo + 1) w' (w'.setCell ⟨bo, 3, none⟩ (.slice A7 k7 c7)) := (Only.refl bo (bo + 1) w').setCell (p := ⟨bo, 3, none⟩) zR (Nat.lt_succ_self _) _;have hbel : Below w.heap.size w w' := h.bel.grown hg h.bel.size fun q e => by have := (h.eds.lt q e).1; omega
 have hl : Own 1 strv w' (w.heap.size + 1) 9 A1 n2 c1 J := h.labs.keep fun q hq => by
  obtain ⟨-, h2, cur, h3⟩ := h.labs.typedK hq;exact hg.block q h2 (h.eds.otherK h3 (by decide))
 exact ⟨hbx, hbx.set3, hrs.only hO (.inl (by omega)), hl.asideL (hl.otherK hbx (by decide)) _, ho.asideL (ho.otherK hbx (by decide)) _, Only.below hbel hO (by omega) hbel.size, hb0⟩
theorem KeeW.label {A7 : Option Addr} {k7 c7 : Nat} (hb : LtsBox wr bo s i none 0 0 A3 k c3) (hr : LtsBox wr w.heap.size 0 0 none 0 0 none 0 0) (hbel : Below w.heap.size w wr) (h0 : w.heap.size < bo) (he : Own 3 ev wr (w.heap.size + 1) 84 A3 k c3 E)
  (hl : Own 1 strv wr (w.heap.size + 1) 9 A7 k7 c7 J) : KeeW w (wr.setCell ⟨bo, 2, none⟩ (.slice A7 k7 c7)) bo s i A7 k7 c7 J A3 k c3 E := by
 have hO : Only bo (bo + 1) wr (wr.setCell ⟨bo, 2, none⟩ (.slice A7 k7 c7)) := (Only.refl bo (bo + 1) wr).setCell (p := ⟨bo, 2, none⟩) zR (Nat.lt_succ_self _) _;exact ⟨heap_setCell_same wr bo 2 _ _ _ hb, hr.only hO (.inl h0), hl.asideL (hl.otherK hb (by decide)) _, he.asideL (he.otherK hb (by decide)) _, Only.below hbel hO (by omega) hbel.size, h0⟩
theorem KeeW.done (h : KeeW w wr bo s i A1 n2 c1 J A3 k c3 E) (a b c d : Value) : SlS (put4 wr w.heap.size a b c d) w.heap.size (put4 wr w.heap.size a b c d).heap.size A1 n2 J ∧ SlE (put4 wr w.heap.size a b c d) w.heap.size (put4 wr w.heap.size a b c d).heap.size A3 k E ∧ Below w.heap.size w (put4 wr w.heap.size a b c d) := by
 have hZs := put4_size wr w.heap.size a b c d;have hz := h.bel.size;refine ⟨?_, ?_, h.bel.os, h.bel.tape, h.bel.output, by omega, fun q hq => (put4_other _ _ _ _ _ _ (by omega)).trans (h.bel.block q hq)⟩
 ·exact (Sl.keep (h.labs.sl flat_strv) (by omega) fun q h1 h2 h3 => put4_other _ _ _ _ _ _ (by omega)).more (by omega) (by omega)
 ·exact (Sl.keep (h.eds.sl flat_ev) (by omega) fun q h1 h2 h3 => put4_other _ _ _ _ _ _ (by omega)).more (by omega) (by omega)
end
end Go.Proofs.YtnhomkmfbngmgaaGreatDoor
namespace Go.Proofs.YtnhomkmfbngmgaaGreatDoor
open Go.ChangeShapes Go.WideShapes Go.ChangeAt Go.RowKit
abbrev Lk := (Int × Int) × ByteArray × Int × Int
def lkv (x : Lk) : List Value := [.int .i64 x.1.1, .int .i64 x.1.2, .string x.2.1, .int .i64 x.2.2.1, .int .i64 x.2.2.2]
theorem flat_lkv : Flat lkv 5 := ⟨fun _ => rfl, fun x v h => by
 unfold lkv at h
 simp at h
 rcases h with rfl | rfl | rfl | rfl | rfl <;> rfl⟩
theorem elem_lkv : Elem Tryz.prog 194 196 5 48 := Elem.of (z := .agg #[.int .i64 0, .int .i64 0, .string ⟨#[]⟩, .int .i64 0, .int .i64 0]) Tryz.underlying194 (by kernel_rfl) rfl (by omega) (by omega)
theorem elem_pr : Elem Tryz.prog 193 192 2 16 := Elem.of (z := .agg #[.int .i64 0, .int .i64 0]) Tryz.underlying193 (by kernel_rfl) rfl (by omega) (by omega)
def addT (T : List (Int × Int)) (q : Int × Int) : List (Int × Int) := if q ∈ T then T else T ++ [q]
structure ProW (w0 wr : World) (bl bn bt bm : Nat) (B : Option Addr) (m d : Nat) (L : List Lk) (A : Option Addr) (n c : Nat) (T : List (Int × Int)) (k : Nat) (f : Int × Int → Option Int) : Prop where
 links : Own 5 lkv wr w0.heap.size 196 B m d L
 todo : Own 2 tv wr w0.heap.size 192 A n c T
 num : MapR wr bm k f
 kl : wr.heap[bl]? = some (.cells #[.slice B m d] 194 (0, 0))
 kt : wr.heap[bt]? = some (.cells #[.slice A n c] 193 (0, 0))
 kn : wr.heap[bn]? = some (.cells #[.map (some bm)] 191 (0, 0))
 nl : w0.heap.size ≤ bl
 nt : w0.heap.size ≤ bt
 nm : w0.heap.size ≤ bm
 bel : Below w0.heap.size w0 wr
theorem cells_ne {w : World} {q b : Nat} {cur cur' : Array Value} {e e' : TypeId} {z z' : Nat × Nat} (hq : w.heap[q]? = some (.cells cur e z)) (hb : w.heap[b]? = some (.cells cur' e' z')) (he : e ≠ e') : q ≠ b := fun h => by
 rw [h, hb] at hq;injection hq with h1;injection h1 with _ h1;exact he h1.symm
theorem map_ne {w : World} {q b : Nat} {cur : Array Value} {e : TypeId} {z : Nat × Nat} {es : Array MapEntry} {clock : Nat} (hq : w.heap[q]? = some (.cells cur e z)) (hb : w.heap[b]? = some (.map es clock)) : q ≠ b := fun h => by
 rw [h, hb] at hq
 cases hq
theorem blk_lt {w : World} {q : Nat} {o : Obj} (h : w.heap[q]? = some o) : q < w.heap.size := (Array.getElem?_eq_some_iff.1 h).1
theorem Own.setB {α : Type} {size : Nat} {g : α → List Value} {w : World} {base n c : Nat} {e : TypeId} {A : Option Addr} {l : List α} (h : Own size g w base e A n c l) {b j : Nat} {cur : Array Value} {e' : TypeId} (hb : w.heap[b]? = some (.cells cur e' (0, 0))) (he : e' ≠ e) (v : Value) : Own size g (w.setCell ⟨b, j, none⟩ v) base e A n c l :=
 h.asideL (h.otherK hb he) v
section
variable {w0 wr w' : World} {bl bn bt bm : Nat} {B : Option Addr} {m d : Nat} {L : List Lk} {A : Option Addr} {n c : Nat} {T : List (Int × Int)} {k : Nat} {f : Int × Int → Option Int}
theorem ProW.below (h : ProW w0 wr bl bn bt bm B m d L A n c T k f) (hb : Below wr.heap.size wr w') : ProW w0 w' bl bn bt bm B m d L A n c T k f where
 links := h.links.below hb zR
 todo := h.todo.below hb zR
 num := h.num.keep (hb.block bm h.num.lt)
 kl := (hb.block bl (blk_lt h.kl)).trans h.kl
 kt := (hb.block bt (blk_lt h.kt)).trans h.kt
 kn := (hb.block bn (blk_lt h.kn)).trans h.kn
 nl := h.nl
 nt := h.nt
 nm := h.nm
 bel := h.bel.trans (hb.mono h.bel.size)
theorem ProW.link (h : ProW w0 wr bl bn bt bm B m d L A n c T k f) {B' : Option Addr} {m' d' : Nat} {L' : List Lk} (hg : wr.grownBy w' (Value.slice B m d).ownBlock) (ho : Own 5 lkv w' w0.heap.size 196 B' m' d' L') :
  w'.heap[bl]? = some (.cells #[.slice B m d] 194 (0, 0)) ∧ ProW w0 (w'.setCell ⟨bl, 0, none⟩ (.slice B' m' d')) bl bn bt bm B' m' d' L' A n c T k f := by
 have key : ∀ {q : Nat} {cur : Array Value} {e : TypeId}, wr.heap[q]? = some (.cells cur e (0, 0)) → e ≠ 196 → w'.heap[q]? = some (.cells cur e (0, 0)) := fun hq he => (hg.block _ (blk_lt hq) (h.links.otherK hq he)).trans hq
 have kl1 := key h.kl (by decide);have kt1 := key h.kt (by decide);have kn1 := key h.kn (by decide);obtain ⟨es, clock, hmap⟩ := h.num.map;have hmb : some bm ≠ (Value.slice B m d).ownBlock := fun e => by
  obtain ⟨-, -, cur, h1⟩ := h.links.typedK e.symm;exact map_ne h1 hmap rfl
 have hm1 := h.num.kept hg hmb;obtain ⟨es1, clock1, hmap1⟩ := hm1.map;have ht : Own 2 tv w' w0.heap.size 192 A n c T := h.todo.keep fun q hq => by
  obtain ⟨-, h2, cur, h3⟩ := h.todo.typedK hq;exact hg.block q h2 (h.links.otherK h3 (by decide))
 refine ⟨kl1, ho.setB kl1 (by decide) _, ht.setB kl1 (by decide) _, hm1.keep (Below.heap_setCell _ _ _ _ (map_ne kl1 hmap1).symm), heap_setCell_same w' bl 0 _ _ _ kl1, (Below.heap_setCell _ _ _ _ (cells_ne kt1 kl1 (by decide))).trans kt1, (Below.heap_setCell _ _ _ _ (cells_ne kn1 kl1 (by decide))).trans kn1, h.nl, h.nt, h.nm, ?_⟩;exact (h.bel.grown hg h.bel.size fun q e => (h.links.lt q e).1).setCell (p := ⟨bl, 0, none⟩) h.nl _
theorem ProW.pair (h : ProW w0 wr bl bn bt bm B m d L A n c T k f) {A' : Option Addr} {n' c' : Nat} {T' : List (Int × Int)} (hg : wr.grownBy w' (Value.slice A n c).ownBlock) (ho : Own 2 tv w' w0.heap.size 192 A' n' c' T') :
  w'.heap[bt]? = some (.cells #[.slice A n c] 193 (0, 0)) ∧ ProW w0 (w'.setCell ⟨bt, 0, none⟩ (.slice A' n' c')) bl bn bt bm B m d L A' n' c' T' k f := by
 have key : ∀ {q : Nat} {cur : Array Value} {e : TypeId}, wr.heap[q]? = some (.cells cur e (0, 0)) → e ≠ 192 → w'.heap[q]? = some (.cells cur e (0, 0)) := fun hq he => (hg.block _ (blk_lt hq) (h.todo.otherK hq he)).trans hq
 have kl1 := key h.kl (by decide);have kt1 := key h.kt (by decide);have kn1 := key h.kn (by decide);obtain ⟨es, clock, hmap⟩ := h.num.map;have hmb : some bm ≠ (Value.slice A n c).ownBlock := fun e => by
  obtain ⟨-, -, cur, h1⟩ := h.todo.typedK e.symm;exact map_ne h1 hmap rfl
 have hm1 := h.num.kept hg hmb;obtain ⟨es1, clock1, hmap1⟩ := hm1.map;have hl : Own 5 lkv w' w0.heap.size 196 B m d L := h.links.keep fun q hq => by
  obtain ⟨-, h2, cur, h3⟩ := h.links.typedK hq;exact hg.block q h2 (h.todo.otherK h3 (by decide))
 refine ⟨kt1, hl.setB kt1 (by decide) _, ho.setB kt1 (by decide) _, hm1.keep (Below.heap_setCell _ _ _ _ (map_ne kt1 hmap1).symm), (Below.heap_setCell _ _ _ _ (cells_ne kl1 kt1 (by decide))).trans kl1, heap_setCell_same w' bt 0 _ _ _ kt1, (Below.heap_setCell _ _ _ _ (cells_ne kn1 kt1 (by decide))).trans kn1, h.nl, h.nt, h.nm, ?_⟩;exact (h.bel.grown hg h.bel.size fun q e => (h.todo.lt q e).1).setCell (p := ⟨bt, 0, none⟩) h.nt _
theorem ProW.stored (h : ProW w0 wr bl bn bt bm B m d L A n c T k f) {k' : Nat} {f' : Int × Int → Option Int} (hg : wr.grownBy w' (some bm)) (hm : MapR w' bm k' f') : ProW w0 w' bl bn bt bm B m d L A n c T k' f' := by
 obtain ⟨es, clock, hmap⟩ := h.num.map;have key : ∀ {q : Nat} {cur : Array Value} {e : TypeId}, wr.heap[q]? = some (.cells cur e (0, 0)) → w'.heap[q]? = wr.heap[q]? := fun {q cur e} hq => hg.block _ (blk_lt hq) fun e1 => map_ne hq hmap (by injection e1)
 refine ⟨h.links.keep fun q hq => ?_, h.todo.keep fun q hq => ?_, hm, (key h.kl).trans h.kl, (key h.kt).trans h.kt, (key h.kn).trans h.kn, h.nl, h.nt, h.nm, h.bel.grown hg h.bel.size fun q e => by injection e with e; rw [← e]; exact h.nm⟩
 ·obtain ⟨-, -, cur, h3⟩ := h.links.typedK hq
  exact key h3
 ·obtain ⟨-, -, cur, h3⟩ := h.todo.typedK hq
  exact key h3
end
def KeepB (w w' : World) (row : Option Nat) : Prop := ∀ (g : Nat) (cur : Array Value) (e : TypeId), w.heap[g]? = some (.cells cur e (0, 0)) → e ≠ 194 → e ≠ 193 → e ≠ 196 → (e = 192 → some g ≠ row) → w'.heap[g]? = some (.cells cur e (0, 0))
theorem KeepB.trans {w w1 w2 : World} {row : Option Nat} (h : KeepB w w1 row) (g : KeepB w1 w2 row) : KeepB w w2 row := fun q cur e hq h1 h2 h3 h4 => g q cur e (h q cur e hq h1 h2 h3 h4) h1 h2 h3 h4
theorem KeepB.below {w w1 : World} {row : Option Nat} (h : Below w.heap.size w w1) : KeepB w w1 row := fun q cur e hq _ _ _ _ => (h.block q (blk_lt hq)).trans hq
theorem KeepB.later {w w1 w2 : World} {row row' : Option Nat} (h : KeepB w w1 row) (g : KeepB w1 w2 row') (hr : row' = row ∨ ∃ q, row' = some q ∧ w.heap.size ≤ q) : KeepB w w2 row := fun q cur e hq h1 h2 h3 h4 => g q cur e (h q cur e hq h1 h2 h3 h4) h1 h2 h3 fun he => by
 rcases hr with e1 | ⟨k, e1, hk⟩
 ·rw [e1]; exact h4 he
 ·rw [e1]
  intro e2;injection e2 with e2;have := blk_lt hq;omega
theorem KeepB.own {α : Type} {size : Nat} {f : α → List Value} {w w' : World} {row : Option Nat} {base n c : Nat} {e : TypeId} {A : Option Addr} {l : List α} (h : KeepB w w' row) (o : Own size f w base e A n c l) (h1 : e ≠ 194) (h2 : e ≠ 193) (h3 : e ≠ 196) (h4 : e ≠ 192) : Own size f w' base e A n c l := o.keep fun g hg => by
 obtain ⟨-, -, cur, hc⟩ := o.typedK hg;rw [hc];exact h g cur e hc h1 h2 h3 fun e1 => absurd e1 h4
section
variable {w0 wr w' : World} {bl bn bt bm : Nat} {B : Option Addr} {m d : Nat} {L : List Lk} {A : Option Addr} {n c : Nat} {T : List (Int × Int)} {k : Nat} {f : Int × Int → Option Int}
theorem ProW.keepL (h : ProW w0 wr bl bn bt bm B m d L A n c T k f) (hg : wr.grownBy w' (Value.slice B m d).ownBlock) (v : Value) {row : Option Nat} : KeepB wr (w'.setCell ⟨bl, 0, none⟩ v) row := fun q cur e hq h1 h2 h3 _ => by
 have hq1 : w'.heap[q]? = some (.cells cur e (0, 0)) := (hg.block q (blk_lt hq) (h.links.otherK hq h3)).trans hq;have hl : w'.heap[bl]? = some (.cells #[.slice B m d] 194 (0, 0)) := (hg.block bl (blk_lt h.kl) (h.links.otherK h.kl (by decide))).trans h.kl;exact (Below.heap_setCell _ _ _ _ (cells_ne hq1 hl h1)).trans hq1
theorem ProW.keepT (h : ProW w0 wr bl bn bt bm B m d L A n c T k f) (hg : wr.grownBy w' (Value.slice A n c).ownBlock) (v : Value) : KeepB wr (w'.setCell ⟨bt, 0, none⟩ v) (Value.slice A n c).ownBlock := fun q cur e hq h1 h2 h3 h4 => by
 have hne : some q ≠ (Value.slice A n c).ownBlock := by
  by_cases he : e = 192
  ·exact h4 he
  ·exact h.todo.otherK hq he
 have hq1 : w'.heap[q]? = some (.cells cur e (0, 0)) := (hg.block q (blk_lt hq) hne).trans hq;have hl : w'.heap[bt]? = some (.cells #[.slice A n c] 193 (0, 0)) := (hg.block bt (blk_lt h.kt) (h.todo.otherK h.kt (by decide))).trans h.kt;exact (Below.heap_setCell _ _ _ _ (cells_ne hq1 hl h2)).trans hq1
theorem ProW.keepM (h : ProW w0 wr bl bn bt bm B m d L A n c T k f) (hg : wr.grownBy w' (some bm)) {row : Option Nat} : KeepB wr w' row := fun q cur e hq _ _ _ _ => by
 obtain ⟨es, clock, hmap⟩ := h.num.map;exact (hg.block q (blk_lt hq) fun e1 => map_ne hq hmap (by injection e1)).trans hq
end
def LeadP (w0 wr : World) (bl bn bt bm : Nat) (L : List Lk) (row : Option Nat) (T : List (Int × Int)) (m n k : Nat) (e : Ending) (w' : World) : Prop :=
 ∃ (B' : Option Addr) (d' : Nat) (A' : Option Addr) (n' c' k' : Nat) (f' : Int × Int → Option Int), e = .returned (.tuple #[]) ∧ ProW w0 w' bl bn bt bm B' (m + 1) d' L A' n' c' T k' f' ∧ (∀ q, (f' q).isSome = true ↔ q ∈ T) ∧ KeepB wr w' row ∧ n' ≤ n + 1 ∧ k' ≤ k + 1 ∧
  ((Value.slice A' n' c').ownBlock = row ∨ ∃ q, (Value.slice A' n' c').ownBlock = some q ∧ wr.heap.size ≤ q) ∧ wr.heap.size ≤ w'.heap.size
theorem lead_calls {w0 wr : World} {bl bp bn bt bm : Nat} {B : Option Addr} {m d : Nat} {L : List Lk} {A : Option Addr} {n c : Nat} {T : List (Int × Int)} {k : Nat} {f : Int × Int → Option Int} (h : ProW w0 wr bl bn bt bm B m d L A n c T k f) (has : ∀ q, (f q).isSome = true ↔ q ∈ T) (p1 p2 q1 q2 : Int) (s : ByteArray)
  (hp : wr.heap[bp]? = some (.cells #[.int .i64 p1, .int .i64 p2] 192 (0, 0))) (hpr : (0 ≤ q1 ∧ q1 ≤ 100) ∧ 0 ≤ q2 ∧ q2 ≤ 100) (hm : m ≤ 100000000) (hn : n ≤ 100000000) (hk : k ≤ 100000000) :
  Calls Tryz.prog 179 (#[.string s, .agg #[.int .i64 q1, .int .i64 q2]] ++ #[.pointer (some ⟨bl, 0, none⟩), .pointer (some ⟨bp, 0, none⟩), .pointer (some ⟨bn, 0, none⟩), .pointer (some ⟨bt, 0, none⟩)]) wr
   (LeadP w0 wr bl bn bt bm (L ++ [((p1, p2), s, q1, q2)]) (Value.slice A n c).ownBlock (addT T (q1, q2)) m n k) := by
 have hEl := hide elem_lkv;have hEp := hide elem_pr;obtain ⟨wB, hwB⟩ : ∃ wB, wB = wr.alloc (.cells #[.int .i64 q1, .int .i64 q2] 192) := ⟨_, rfl⟩;obtain ⟨bq, hbq⟩ : ∃ bq, bq = wr.heap.size := ⟨_, rfl⟩;have kq : wB.heap[bq]? = some (.cells #[.int .i64 q1, .int .i64 q2] 192 (0, 0)) := by rw [hwB, hbq]; exact heap_alloc_new wr _
 have hbB : Below wr.heap.size wr wB := by rw [hwB]; exact bR.alloc zR _
 have hB := h.below hbB;have kpB := (hbB.block bp (blk_lt hp)).trans hp;have hqrow : some bq ≠ (Value.slice A n c).ownBlock := fun e => by have := (h.todo.lt bq e.symm).2; omega
 -- the literal
 obtain ⟨wL, hwL⟩ : ∃ wL, wL = wB.alloc (.cells #[.int .i64 p1, .int .i64 p2, .string s, .int .i64 q1, .int .i64 q2] 196) := ⟨_, rfl⟩;have hbL : Below wB.heap.size wB wL := by rw [hwL]; exact bR.alloc zR _
 have hL := hB.below hbL;have hlit : Sl 5 lkv wL 0 (wB.heap.size + 1) (some ⟨wB.heap.size, 0, none⟩) 1 [((p1, p2), s, q1, q2)] := by rw [hwL]; exact (Sl.lit1' (f := lkv) wB 196 ((p1, p2), s, q1, q2) #[.int .i64 p1, .int .i64 p2, .string s, .int .i64 q1, .int .i64 q2] rfl 5 _ rfl).more (Nat.zero_le _) zR
 have hkeep0 : Hid (KeepB wr wL (Value.slice A n c).ownBlock) := (KeepB.below hbB).trans (KeepB.below hbL);have kqL := (hbL.block bq (blk_lt kq)).trans kq;have a0 : wB.cell? ⟨bl, 0, none⟩ = some (.slice B m d) := cR 0 hB.kl;have a1 : wB.cell? ⟨bp, 0, none⟩ = some (.int .i64 p1) := cR 0 kpB;have a2 : wB.cell? ⟨bp, 1, none⟩ = some (.int .i64 p2) := cR 1 kpB;have a3 : wB.cell? ⟨bq, 0, none⟩ = some (.int .i64 q1) := cR 0 kq;have a4 : wB.cell? ⟨bq, 1, none⟩ = some (.int .i64 q2) := cR 1 kq;have hszL : wr.heap.size ≤ wL.heap.size := Nat.le_trans hbB.size hbL.size;have hzb : w0.heap.size ≤ wL.heap.size := hL.bel.size;have hmm : (m + 1) * 48 ≤ 140737488355328 := by omega
 replace hL := hide hL;replace hlit := hide hlit;replace has := hide has;replace kqL := hide kqL;clear h hp hB kpB kq hbB hbL;go_enter Tryz.func179, Tryz.ntmps179;go_upto_region 1 with fail;rw [← show wB = _ from hwB, ← hbq];replace hwB := hide hwB;replace hbq := hide hbq;go_upto_region 2 with (first | (at_builtin; rw [← show wL = _ from hwL]; (with_reducible refine wpList_app rfl (.tmp 10) (.tmp 15) rfl hEl.out flat_lkv rfl hL.out.links rfl hlit.out hmm hzb ?_); intro B1 d1 w1 hown1 hgr1 hbw1 hat1; have hk1 := (hL.out.link hgr1 hown1).1; have s0 : w1.cell? ⟨bl, 0, none⟩ = some (.slice B m d) := cR 0 hk1; have s1 : w1.frozen? ⟨bl, 0, none⟩ = false := frozen_of_row _ _ _ _ _ hk1));have hW2 := hide (hL.out.link hgr1 hown1).2;have hkeep2 := hide (hkeep0.out.trans (hL.out.keepL hgr1 (.slice B1 (m + 1) d1)));have kq2 := hL.out.keepL hgr1 (.slice B1 (m + 1) d1) (row := none) bq _ _ kqL.out (by decide) (by decide) (by decide) (fun _ => by simp);obtain ⟨w2, hw2⟩ : ∃ w2, w2 = w1.setCell ⟨bl, 0, none⟩ (.slice B1 (m + 1) d1) := ⟨_, rfl⟩;have hsz2 : wr.heap.size ≤ w2.heap.size := by rw [hw2, World.size_setCell]; exact Nat.le_trans hszL hgr1.size
 rw [← hw2] at hW2 hkeep2 kq2 ⊢;replace hw2 := hide hw2;have c0 : w2.cell? ⟨bn, 0, none⟩ = some (.map (some bm)) := cR 0 hW2.out.kn;have c1 : w2.cell? ⟨bt, 0, none⟩ = some (.slice A n c) := cR 0 hW2.out.kt;have b3 : w2.cell? ⟨bq, 0, none⟩ = some (.int .i64 q1) := cR 0 kq2;have b4 : w2.cell? ⟨bq, 1, none⟩ = some (.int .i64 q2) := cR 1 kq2;obtain ⟨cv, hlk0, -⟩ := hW2.out.num.lookOk (k := (q1, q2)) (fit_of hpr.1.1 (by omega) hpr.2.1 (by omega));replace kq2 := hide kq2;clear a0 a1 a2 a3 a4 hk1 s0 s1 hat1 hbw1 hgr1 hown1 hL hlit hkeep0 kqL
 by_cases hin : (q1, q2) ∈ T
 ·have hsome := (has.out (q1, q2)).2 hin
  rw [hsome] at hlk0;have hlk : (Instr.lookup 191 (.map (some bm)) (.agg #[.int .i64 q1, .int .i64 q2]) true).run Tryz.prog w2 = .ok (.tuple #[.int .i64 cv, .bool true]) w2 := hlk0;have hT : Hid (addT T (q1, q2) = T) := if_pos hin;clear hlk0 hsome hin;go_wp2_with fail
  go_end0
  rw [hT.out];exact ⟨B1, d1, A, n, c, k, f, rfl, hW2.out, has.out, hkeep2.out, by omega, by omega, .inl rfl, hsz2⟩
 ·have hnone : (f (q1, q2)).isSome = false := Bool.eq_false_iff.2 fun h => hin ((has.out (q1, q2)).1 h)
  rw [hnone] at hlk0;have hlk : (Instr.lookup 191 (.map (some bm)) (.agg #[.int .i64 q1, .int .i64 q2]) true).run Tryz.prog w2 = .ok (.tuple #[.int .i64 cv, .bool false]) w2 := hlk0;have hT : Hid (addT T (q1, q2) = T ++ [(q1, q2)]) := if_neg hin;obtain ⟨w3, hup0, hm3, hg3⟩ := hW2.out.num.update (k := (q1, q2)) (c := 0) (by unfold maxLen; omega) (fit_of hpr.1.1 (by omega) hpr.2.1 (by omega)) (by decide);have hup : (Instr.mapUpdate 191 (.map (some bm)) (.agg #[.int .i64 q1, .int .i64 q2]) (.int .i64 0)).run Tryz.prog w2 = .ok () w3 := hup0;have hW3 := hW2.out.stored hg3 hm3;have hkeep3 := hkeep2.out.trans (hW2.out.keepM hg3);have kq3 := hW2.out.keepM hg3 (row := none) bq _ _ kq2.out (by decide) (by decide) (by decide) (fun _ => by simp);have hsz3 : wr.heap.size ≤ w3.heap.size := Nat.le_trans hsz2 hg3.size;have e3 : w3.cell? ⟨bq, 0, none⟩ = some (.int .i64 q1) := cR 0 kq3;have e4 : w3.cell? ⟨bq, 1, none⟩ = some (.int .i64 q2) := cR 1 kq3;have e5 : w3.cell? ⟨bt, 0, none⟩ = some (.slice A n c) := cR 0 hW3.kt;obtain ⟨wV, hwV⟩ : ∃ wV, wV = w3.alloc (.cells #[.int .i64 q1, .int .i64 q2] 192) := ⟨_, rfl⟩;have hbV : Below w3.heap.size w3 wV := by rw [hwV]; exact bR.alloc zR _
  have hWV := hide (hW3.below hbV);have hkeepV := hide (hkeep3.trans (KeepB.below hbV));have hlitV : Hid (Sl 2 tv wV 0 (w3.heap.size + 1) (some ⟨w3.heap.size, 0, none⟩) 1 [(q1, q2)]) := by show Sl _ _ _ _ _ _ _ _; rw [hwV]; exact (Sl.lit1' (f := tv) w3 192 (q1, q2) #[.int .i64 q1, .int .i64 q2] rfl 2 _ rfl).more (Nat.zero_le _) zR
  have hszV : wr.heap.size ≤ wV.heap.size := Nat.le_trans hsz3 hbV.size;have hzV : w0.heap.size ≤ wV.heap.size := hWV.out.bel.size;have hnn : (n + 1) * 16 ≤ 140737488355328 := by omega
  have has2 : Hid (∀ q : Int × Int, (if q = (q1, q2) then some 0 else f q : Option Int).isSome = true ↔ q ∈ T ++ [(q1, q2)]) := fun q => by
   rw [List.mem_append, List.mem_singleton, ← has.out q]
   by_cases e : q = (q1, q2)
   ·rw [if_pos e]; simp [e]
   ·rw [if_neg e]; simp [e]
  clear hlk0 hnone hin hup0 hm3 hg3 hW3 hkeep3 kq3 hbV hsz3 has hW2 hkeep2 kq2;go_upto_region 5 with fail;clear hlk hup c0 b3 b4 c1;go_wp2_with (first | (at_builtin; rw [← show wV = _ from hwV]; (with_reducible refine wpList_app rfl (.tmp 27) (.tmp 29) rfl hEp.out flat_tv rfl hWV.out.todo rfl hlitV.out hnn hzV ?_); intro A1 c1 w5 hown5 hgr5 hbw5 hat5; have hk5 := (hWV.out.pair hgr5 hown5).1; have s0 : w5.cell? ⟨bt, 0, none⟩ = some (.slice A n c) := cR 0 hk5; have s1 : w5.frozen? ⟨bt, 0, none⟩ = false := frozen_of_row _ _ _ _ _ hk5))
  go_end0
  rw [hT.out];refine ⟨B1, d1, A1, n + 1, c1, k + 1, _, rfl, (hWV.out.pair hgr5 hown5).2, has2.out, hkeepV.out.trans (hWV.out.keepT hgr5 _), zR, zR, ?_, ?_⟩
  ·rcases hat5 with e | e
   ·exact .inl e
   ·exact .inr ⟨_, e, hszV⟩
  ·rw [World.size_setCell]
   exact Nat.le_trans hszV hgr5.size
end Go.Proofs.YtnhomkmfbngmgaaGreatDoor
namespace Go.Proofs.YtnhomkmfbngmgaaGreatDoor
structure BisR {L : Type} (A B : Nat → L → Nat → Prop) (R : Nat → Nat → Prop) : Prop where
 fwd : ∀ x y s x', R x y → A x s x' → ∃ y', B y s y' ∧ R x' y'
 bwd : ∀ x y s y', R x y → B y s y' → ∃ x', A x s x' ∧ R x' y'
def Bis {L : Type} (A B : Nat → L → Nat → Prop) (a b : Nat) : Prop := ∃ R, BisR A B R ∧ R a b
section
variable {L : Type} {A B C : Nat → L → Nat → Prop} {a b c : Nat}
theorem Bis.refl (A : Nat → L → Nat → Prop) (a : Nat) : Bis A A a a :=
 ⟨fun x y => x = y, ⟨fun x y s x' e h => ⟨x', e ▸ h, rfl⟩, fun x y s y' e h => ⟨y', e.symm ▸ h, rfl⟩⟩, rfl⟩
theorem Bis.symm (h : Bis A B a b) : Bis B A b a := by
 obtain ⟨R, h1, h2⟩ := h;exact ⟨fun x y => R y x, ⟨fun x y s x' e g => h1.bwd y x s x' e g, fun x y s y' e g => h1.fwd y x s y' e g⟩, h2⟩
theorem Bis.trans (h : Bis A B a b) (g : Bis B C b c) : Bis A C a c := by
 obtain ⟨R, h1, h2⟩ := h;obtain ⟨S, g1, g2⟩ := g;refine ⟨fun x z => ∃ y, R x y ∧ S y z, ⟨fun x z s x' e k => ?_, fun x z s z' e k => ?_⟩, b, h2, g2⟩
 ·obtain ⟨y, e1, e2⟩ := e
  obtain ⟨y', k1, k2⟩ := h1.fwd x y s x' e1 k;obtain ⟨z', k3, k4⟩ := g1.fwd y z s y' e2 k1;exact ⟨z', k3, y', k2, k4⟩
 ·obtain ⟨y, e1, e2⟩ := e
  obtain ⟨y', k1, k2⟩ := g1.bwd y z s z' e2 k;obtain ⟨x', k3, k4⟩ := h1.bwd x y s y' e1 k1;exact ⟨x', k3, y', k4, k2⟩
theorem Bis.step (h : Bis A B a b) {s : L} {a' : Nat} (k : A a s a') : ∃ b', B b s b' ∧ Bis A B a' b' := by
 obtain ⟨R, h1, h2⟩ := h;obtain ⟨b', k1, k2⟩ := h1.fwd a b s a' h2 k;exact ⟨b', k1, R, h1, k2⟩
end
def nE (es : List Ed) (x : Nat) (l : Int) (y : Nat) : Prop := ((x : Int), l, (y : Int)) ∈ es
section
variable {es : List Ed} {N r : Nat}
theorem nE_in (he : EdIn N es) {x y : Nat} {l : Int} (h : nE es x l y) : x < N ∧ y < N := by
 have := he _ h;simp only at this;omega
theorem canS_nE (he : EdIn N es) {p : List Int} {k : Nat} {l b : Int} : canS es p k l b ↔ ∃ y, nE es k l y ∧ p[y]? = some b := by
 constructor
 ·rintro ⟨⟨f, l', t⟩, h1, h2, h3, h4⟩
  have := he _ h1;simp only at this h2 h3 h4;refine ⟨t.toNat, ?_, h4⟩;unfold nE;rw [← h2, ← h3, show ((t.toNat : Nat) : Int) = t by omega];exact h1
 ·rintro ⟨y, h1, h2⟩
  exact ⟨_, h1, rfl, rfl, by simpa using h2⟩
theorem bis_rnd (he : EdIn N es) : ∀ (n : Nat) {x y : Nat}, x < N → y < N → Bis (nE es) (nE es) x y → sameB (rndP es N n) x y
 | 0, x, y, hx, hy, _ => rnd_zero hx hy
 | n + 1, x, y, hx, hy, h => by
  refine (rnd_same he hx hy).2 ⟨bis_rnd he n hx hy h, fun l b => ?_⟩;rw [canS_nE he, canS_nE he]
  constructor
  ·rintro ⟨z, h1, h2⟩
   obtain ⟨w, k1, k2⟩ := h.step h1;exact ⟨w, k1, by rw [← bis_rnd he n (nE_in he h1).2 (nE_in he k1).2 k2]; exact h2⟩
  ·rintro ⟨z, h1, h2⟩
   obtain ⟨w, k1, k2⟩ := h.symm.step h1;exact ⟨w, k1, by rw [← bis_rnd he n (nE_in he h1).2 (nE_in he k1).2 k2]; exact h2⟩
theorem stable_bis (he : EdIn N es) {p : List Int} (hp : PartN N p) (hs : refF es N p = p) : BisR (nE es) (nE es) fun x y => x < N ∧ y < N ∧ sameB p x y := by
 have key : ∀ x y s x', x < N → y < N → sameB p x y → nE es x s x' → ∃ y', nE es y s y' ∧ x' < N ∧ y' < N ∧ sameB p x' y' := by
  intro x y s x' hx hy hxy h;rw [← hs] at hxy;have h1 := ((ref_same he hp.len hp.range hx hy).1 hxy).2 s;have hx' := (nE_in he h).2;obtain ⟨b, hb⟩ : ∃ b, p[x']? = some b := ⟨_, List.getElem?_eq_getElem (by rw [hp.len]; exact hx')⟩;obtain ⟨y', g1, g2⟩ := (canS_nE he).1 ((h1 b).1 ((canS_nE he).2 ⟨x', h, hb⟩));exact ⟨y', g1, hx', (nE_in he g1).2, by unfold sameB; rw [hb, g2]⟩
 refine ⟨fun x y s x' e h => key x y s x' e.1 e.2.1 e.2.2 h, fun x y s y' e h => ?_⟩;obtain ⟨x', g1, g2, g3, g4⟩ := key y x s y' e.2.1 e.1 (Eq.symm e.2.2) h;exact ⟨x', g1, g3, g2, Eq.symm g4⟩
theorem last_stable (h : LastR es N r) : refF es N (rndP es N r) = rndP es N r := h.1
theorem str_iff (he : EdIn N es) (h : LastR es N r) {x y : Nat} (hx : x < N) (hy : y < N) : sameB (rndP es N r) x y ↔ Bis (nE es) (nE es) x y :=
 ⟨fun g => ⟨_, stable_bis he (rnd_part r) (last_stable h), hx, hy, g⟩, bis_rnd he r hx hy⟩
end
def tE (ls : List ByteArray) (es : List Ed) (x : Nat) (s : ByteArray) (y : Nat) : Prop := ∃ l : Nat, nE es x (l : Int) y ∧ ls[l]? = some s
theorem bis_text {ls : List ByteArray} {es : List Ed} (hn : ls.Nodup) (hl : ∀ e, e ∈ es → 0 ≤ e.2.1 ∧ e.2.1 < (ls.length : Int)) {x y : Nat} : Bis (nE es) (nE es) x y ↔ Bis (tE ls es) (tE ls es) x y := by
 constructor
 ·rintro ⟨R, h1, h2⟩
  refine ⟨R, ⟨fun a b s a' r h => ?_, fun a b s b' r h => ?_⟩, h2⟩
  ·obtain ⟨l, g1, g2⟩ := h
   obtain ⟨b', k1, k2⟩ := h1.fwd a b _ a' r g1;exact ⟨b', ⟨l, k1, g2⟩, k2⟩
  ·obtain ⟨l, g1, g2⟩ := h
   obtain ⟨a', k1, k2⟩ := h1.bwd a b _ b' r g1;exact ⟨a', ⟨l, k1, g2⟩, k2⟩
 ·rintro ⟨R, h1, h2⟩
  have inj : ∀ {i j : Nat} {s : ByteArray}, ls[i]? = some s → ls[j]? = some s → i = j := fun {i j s} h g => by
   obtain ⟨hi, e1⟩ := List.getElem?_eq_some_iff.1 h;obtain ⟨hj, e2⟩ := List.getElem?_eq_some_iff.1 g;exact (List.getElem_inj hn).1 (e1.trans e2.symm)
  refine ⟨R, ⟨fun a b s a' r h => ?_, fun a b s b' r h => ?_⟩, h2⟩
  ·have hs := hl _ h
   simp only at hs;obtain ⟨l, rfl⟩ : ∃ l : Nat, s = (l : Int) := ⟨s.toNat, by omega⟩;obtain ⟨t, ht⟩ : ∃ t, ls[l]? = some t := ⟨_, List.getElem?_eq_getElem (by omega)⟩;obtain ⟨b', ⟨l2, k1, k2⟩, k3⟩ := h1.fwd a b t a' r ⟨l, h, ht⟩;rw [inj ht k2];exact ⟨b', k1, k3⟩
  ·have hs := hl _ h
   simp only at hs;obtain ⟨l, rfl⟩ : ∃ l : Nat, s = (l : Int) := ⟨s.toNat, by omega⟩;obtain ⟨t, ht⟩ : ∃ t, ls[l]? = some t := ⟨_, List.getElem?_eq_getElem (by omega)⟩;obtain ⟨a', ⟨l2, k1, k2⟩, k3⟩ := h1.bwd a b t b' r ⟨l, h, ht⟩;rw [inj ht k2];exact ⟨a', k1, k3⟩
def sumE {L : Type} (n : Nat) (A B : Nat → L → Nat → Prop) (x : Nat) (s : L) (y : Nat) : Prop := (x < n ∧ y < n ∧ A x s y) ∨ (∃ x' y', x = n + x' ∧ y = n + y' ∧ B x' s y')
theorem bis_sum {L : Type} {n : Nat} {A B : Nat → L → Nat → Prop} (hA : ∀ x s y, A x s y → x < n ∧ y < n) {a b : Nat} (ha : a < n) : Bis (sumE n A B) (sumE n A B) a (n + b) ↔ Bis A B a b := by
 constructor
 ·rintro ⟨R, h1, h2⟩
  refine ⟨fun x y => x < n ∧ R x (n + y), ⟨fun x y s x' r h => ?_, fun x y s y' r h => ?_⟩, ha, h2⟩
  ·have hx := hA x s x' h
   obtain ⟨y', k1, k2⟩ := h1.fwd x (n + y) s x' r.2 (.inl ⟨hx.1, hx.2, h⟩)
   rcases k1 with ⟨k, _⟩ | ⟨u, v, e1, rfl, k⟩
   ·omega
   ·obtain rfl : u = y := by omega
    exact ⟨v, k, hx.2, k2⟩
  ·obtain ⟨x', k1, k2⟩ := h1.bwd x (n + y) s (n + y') r.2 (.inr ⟨y, y', rfl, rfl, h⟩)
   rcases k1 with ⟨_, k3, k⟩ | ⟨u, v, e1, e2, k⟩
   ·exact ⟨x', k, k3, k2⟩
   ·have := r.1; omega
 ·rintro ⟨R, h1, h2⟩
  refine ⟨fun x y => x < n ∧ ∃ y', y = n + y' ∧ R x y', ⟨fun x y s x' r h => ?_, fun x y s y' r h => ?_⟩, ha, b, rfl, h2⟩
  ·obtain ⟨hx, v, rfl, r⟩ := r
   rcases h with ⟨_, k3, k⟩ | ⟨u, v, e1, e2, k⟩
   ·obtain ⟨w, g1, g2⟩ := h1.fwd x v s x' r k
    exact ⟨n + w, .inr ⟨v, w, rfl, rfl, g1⟩, k3, w, rfl, g2⟩
   ·omega
  ·obtain ⟨hx, v, rfl, r⟩ := r
   rcases h with ⟨k3, _, k⟩ | ⟨u, w, e1, rfl, k⟩
   ·omega
   ·obtain rfl : v = u := by omega
    obtain ⟨x', g1, g2⟩ := h1.bwd x v s w r k;have := hA _ _ _ g1;exact ⟨x', .inl ⟨this.1, this.2, g1⟩, this.2, w, rfl, g2⟩
structure BisS {S T L : Type} (A : S → L → S → Prop) (B : T → L → T → Prop) (R : S → T → Prop) : Prop where
 fwd : ∀ x y s x', R x y → A x s x' → ∃ y', B y s y' ∧ R x' y'
 bwd : ∀ x y s y', R x y → B y s y' → ∃ x', A x s x' ∧ R x' y'
def BisG {S T L : Type} (A : S → L → S → Prop) (B : T → L → T → Prop) (a : S) (b : T) : Prop := ∃ R, BisS A B R ∧ R a b
theorem bisG_bis {L : Type} {A B : Nat → L → Nat → Prop} {a b : Nat} (h : BisG A B a b) : Bis A B a b := by
 obtain ⟨R, h1, h2⟩ := h;exact ⟨R, ⟨h1.fwd, h1.bwd⟩, h2⟩
section
variable {S T U L : Type} {A : S → L → S → Prop} {B : T → L → T → Prop} {C : U → L → U → Prop} {a : S} {b : T} {c : U}
theorem BisG.symm (h : BisG A B a b) : BisG B A b a := by
 obtain ⟨R, h1, h2⟩ := h;exact ⟨fun x y => R y x, ⟨fun x y s x' e g => h1.bwd y x s x' e g, fun x y s y' e g => h1.fwd y x s y' e g⟩, h2⟩
theorem BisG.trans (h : BisG A B a b) (g : BisG B C b c) : BisG A C a c := by
 obtain ⟨R, h1, h2⟩ := h;obtain ⟨Q, g1, g2⟩ := g;refine ⟨fun x z => ∃ y, R x y ∧ Q y z, ⟨fun x z s x' e k => ?_, fun x z s z' e k => ?_⟩, b, h2, g2⟩
 ·obtain ⟨y, e1, e2⟩ := e
  obtain ⟨y', k1, k2⟩ := h1.fwd x y s x' e1 k;obtain ⟨z', k3, k4⟩ := g1.fwd y z s y' e2 k1;exact ⟨z', k3, y', k2, k4⟩
 ·obtain ⟨y, e1, e2⟩ := e
  obtain ⟨y', k1, k2⟩ := g1.bwd y z s z' e2 k;obtain ⟨x', k3, k4⟩ := h1.bwd x y s y' e1 k1;exact ⟨x', k3, y', k4, k2⟩
end
def prodT {S T : Type} (A : S → ByteArray → S → Prop) (B : T → ByteArray → T → Prop) (sh : ByteArray → Bool) (p : S × T) (s : ByteArray) (q : S × T) : Prop :=
 (sh s = false ∧ A p.1 s q.1 ∧ q.2 = p.2) ∨ (sh s = false ∧ B p.2 s q.2 ∧ q.1 = p.1) ∨ (sh s = true ∧ A p.1 s q.1 ∧ B p.2 s q.2)
def hideT {S : Type} (T : S → ByteArray → S → Prop) (h : ByteArray → ByteArray) (x : S) (s : ByteArray) (y : S) : Prop := ∃ s0, T x s0 y ∧ s = h s0
section
variable {S T : Type} {A : S → ByteArray → S → Prop} {B : T → ByteArray → T → Prop} {sh : ByteArray → Bool}
theorem prod_swap {p q : S × T} {s : ByteArray} (h : prodT A B sh p s q) : prodT B A sh (p.2, p.1) s (q.2, q.1) := by
 rcases h with h | h | h
 ·exact .inr (.inl h)
 ·exact .inl h
 ·exact .inr (.inr ⟨h.1, h.2.2, h.2.1⟩)
theorem prod_comm (x : S) (y : T) : BisG (prodT A B sh) (prodT B A sh) (x, y) (y, x) :=
 ⟨fun p q => q = (p.2, p.1), ⟨fun p q s p' e h => ⟨(p'.2, p'.1), e ▸ prod_swap h, rfl⟩, fun p q s q' e h => ⟨(q'.2, q'.1), by
  have := prod_swap h;rw [e] at this;exact this, rfl⟩⟩, rfl⟩
theorem hide_bis {S T : Type} {A : S → ByteArray → S → Prop} {B : T → ByteArray → T → Prop} {h : ByteArray → ByteArray} {a : S} {b : T} (g : BisG A B a b) : BisG (hideT A h) (hideT B h) a b := by
 obtain ⟨R, h1, h2⟩ := g;refine ⟨R, ⟨fun x y s x' r k => ?_, fun x y s y' r k => ?_⟩, h2⟩
 ·obtain ⟨s0, k1, k2⟩ := k
  obtain ⟨y', g1, g2⟩ := h1.fwd x y s0 x' r k1;exact ⟨y', ⟨s0, g1, k2⟩, g2⟩
 ·obtain ⟨s0, k1, k2⟩ := k
  obtain ⟨x', g1, g2⟩ := h1.bwd x y s0 y' r k1;exact ⟨x', ⟨s0, g1, k2⟩, g2⟩
theorem hide_prod {h : ByteArray → ByteArray} (hs : ∀ s, sh (h s) = sh s) (hi : ∀ s, sh s = true → h s = s) {p q : S × T} {s : ByteArray} : hideT (prodT A B sh) h p s q ↔ prodT (hideT A h) (hideT B h) sh p s q := by
 constructor
 ·rintro ⟨s0, k, rfl⟩
  rcases k with k | k | k
  ·exact .inl ⟨by rw [hs]; exact k.1, ⟨s0, k.2.1, rfl⟩, k.2.2⟩
  ·exact .inr (.inl ⟨by rw [hs]; exact k.1, ⟨s0, k.2.1, rfl⟩, k.2.2⟩)
  ·exact .inr (.inr ⟨by rw [hs]; exact k.1, ⟨s0, k.2.1, rfl⟩, ⟨s0, k.2.2, rfl⟩⟩)
 ·rintro (⟨k0, ⟨s0, k1, rfl⟩, k2⟩ | ⟨k0, ⟨s0, k1, rfl⟩, k2⟩ | ⟨k0, ⟨s0, k1, rfl⟩, ⟨s1, k2, k3⟩⟩)
  ·exact ⟨s0, .inl ⟨by rw [hs] at k0; exact k0, k1, k2⟩, rfl⟩
  ·exact ⟨s0, .inr (.inl ⟨by rw [hs] at k0; exact k0, k1, k2⟩), rfl⟩
  ·have e0 := hi s0 (by rw [hs] at k0; exact k0)
   have e1 := hi s1 (by rw [k3, hs] at k0; exact k0);rw [e0, e1] at k3;exact ⟨s0, .inr (.inr ⟨by rw [hs] at k0; exact k0, k1, by rw [k3]; exact k2⟩), rfl⟩
end
structure ProdS {S T : Type} (A : S → ByteArray → S → Prop) (B : T → ByteArray → T → Prop) (sh : ByteArray → Bool) (a : S) (b : T) (W : List (S × T)) (X : Nat → ByteArray → Nat → Prop) (i : Nat) : Prop where
 nd : W.Nodup
 ini : W[i]? = some (a, b)
 clo : ∀ p s q, p ∈ W → prodT A B sh p s q → q ∈ W
 is : ∀ k s m, X k s m ↔ ∃ p q, W[k]? = some p ∧ W[m]? = some q ∧ prodT A B sh p s q
theorem ProdS.bis {S T : Type} {A : S → ByteArray → S → Prop} {B : T → ByteArray → T → Prop} {sh : ByteArray → Bool} {a : S} {b : T} {W : List (S × T)} {X : Nat → ByteArray → Nat → Prop} {i : Nat} (h : ProdS A B sh a b W X i) : BisG X (prodT A B sh) i (a, b) := by
 refine ⟨fun k p => W[k]? = some p, ⟨fun k p s m r g => ?_, fun k p s q r g => ?_⟩, h.ini⟩
 ·obtain ⟨p2, q, e1, e2, e3⟩ := (h.is k s m).1 g
  rw [r] at e1;injection e1 with e1;exact ⟨q, e1 ▸ e3, e2⟩
 ·obtain ⟨m, hm⟩ := List.getElem?_of_mem (h.clo p s q (List.mem_of_getElem? r) g)
  exact ⟨m, (h.is k s m).2 ⟨p, q, r, hm, g⟩, hm⟩
section
variable {es es2 : List Ed} {N r : Nat} {p : List Int}
end
theorem part_lt {N : Nat} {p : List Int} (h : PartN N p) {x : Int} (hx : x ∈ p) : 0 ≤ x ∧ x < (numB p : Int) := by
 have h1 := firsts_of_norm h.norm;have : x ∈ firsts [] p := firsts_mem.2 (.inr hx);rw [h1] at this;obtain ⟨c, hc, rfl⟩ := List.mem_map.1 this;have := List.mem_range.1 hc;exact ⟨by show (0 : Int) ≤ (c : Int); omega, by show (c : Int) < _; omega⟩
open Go.ChangeAt Go.ChangeShapes Go.Lib Go.RowKit Go.Sort Go.WideShapes
theorem arc_step {J ls : List ByteArray} {es : List Ed} (hJ : ∀ s, s ∈ ls → s ∈ J) (hl : ∀ e, e ∈ es → 0 ≤ e.2.1 ∧ e.2.1 < (ls.length : Int)) {f t : Int} {s : ByteArray} :
  (∃ l : Nat, (∃ a, a ∈ es.map (arcOf ls) ∧ (f, (l : Int), t) = arcD J a) ∧ J[l]? = some s) ↔ ∃ l : Nat, (f, (l : Int), t) ∈ es ∧ ls[l]? = some s := by
 constructor
 ·rintro ⟨l, ⟨a, ha, e⟩, hs⟩
  obtain ⟨x, hx, rfl⟩ := List.mem_map.1 ha;have hlx := hl x hx;unfold arcD at e;injection e with e1 e2;injection e2 with e2 e3;obtain ⟨k, h1, h2⟩ := idxZ_get (hJ _ (arcOf_mem (la := ls) (e := x) hlx));have : k = l := by omega
  subst this;rw [hs] at h2;have h3 := Option.some.inj h2;unfold arcOf at h3 e1 e3;simp only at h3 e1 e3;rw [List.getElem?_eq_getElem (show x.2.1.toNat < ls.length by omega), Option.getD_some] at h3;refine ⟨x.2.1.toNat, ?_, by rw [h3]; exact List.getElem?_eq_getElem _⟩;rw [show ((x.2.1.toNat : Nat) : Int) = x.2.1 by omega, e1, e3];exact hx
 ·rintro ⟨l, hx, hs⟩
  have hms := List.mem_of_getElem? hs;obtain ⟨k, h1, h2⟩ := idxZ_get (hJ s hms);refine ⟨k, ⟨arcOf ls (f, (l : Int), t), List.mem_map.2 ⟨_, hx, rfl⟩, ?_⟩, h2⟩;rw [arcOf_at hs];unfold arcD;simp only;rw [h1]
theorem uni_tE {la : List ByteArray} {ea : List Ed} {lb : List ByteArray} {eb : List Ed} {Na : Nat}
  (ha : ∀ e, e ∈ ea → (0 ≤ e.1 ∧ e.1 < (Na : Int)) ∧ (0 ≤ e.2.1 ∧ e.2.1 < (la.length : Int)) ∧ (0 ≤ e.2.2 ∧ e.2.2 < (Na : Int)))
  (hb : ∀ e, e ∈ eb → 0 ≤ e.1 ∧ (0 ≤ e.2.1 ∧ e.2.1 < (lb.length : Int)) ∧ 0 ≤ e.2.2) {x y : Nat} {s : ByteArray} :
  tE (joiF (la ++ lb)) (uniE la ea lb eb Na) x s y ↔ sumE Na (tE la ea) (tE lb eb) x s y := by
 have hJa : ∀ s, s ∈ la → s ∈ joiF (la ++ lb) := fun s hs => (joi_mem_iff _ _).2 (.inr (List.mem_append_left _ hs))
 have hJb : ∀ s, s ∈ lb → s ∈ joiF (la ++ lb) := fun s hs => (joi_mem_iff _ _).2 (.inr (List.mem_append_right _ hs))
 have ka := fun (f t : Int) (s : ByteArray) => arc_step (es := ea) (f := f) (t := t) (s := s) hJa fun e he => (ha e he).2.1
 have kb := fun (f t : Int) (s : ByteArray) => arc_step (es := eb) (f := f) (t := t) (s := s) hJb fun e he => (hb e he).2.1
 unfold tE sumE nE
 constructor
 ·rintro ⟨l, he, hs⟩
  unfold uniE at he;obtain ⟨a, hm, e⟩ := ltsEs_mem.1 he;unfold uniA at hm
  rcases List.mem_append.1 hm with h | h
  ·obtain ⟨l', h1, h2⟩ := (ka (x : Int) (y : Int) s).1 ⟨l, ⟨a, h, e⟩, hs⟩
   have := ha _ h1;dsimp only at this;exact .inl ⟨by omega, by omega, l', h1, h2⟩
  ·obtain ⟨b, hb', rfl⟩ := List.mem_map.1 h
   have hbx := hb';obtain ⟨z, hz, hzb⟩ := List.mem_map.1 hb';have hz2 := hb z hz;have e0 := e;unfold arcD shiftA at e;injection e with e1 e2;injection e2 with e2 e3;simp only at e1 e2 e3;have b1 : b.1 = z.1 := by rw [← hzb]; rfl
   have b2 : b.2.2 = z.2.2 := by rw [← hzb]; rfl
   obtain ⟨l', h1, h2⟩ := (kb b.1 b.2.2 s).1 ⟨l, ⟨b, hbx, by unfold arcD; rw [e2]⟩, hs⟩;refine .inr ⟨b.1.toNat, b.2.2.toNat, by omega, by omega, l', ?_, h2⟩;rw [show ((b.1.toNat : Nat) : Int) = b.1 by omega, show ((b.2.2.toNat : Nat) : Int) = b.2.2 by omega];exact h1
 ·rintro (⟨-, -, l, h1, h2⟩ | ⟨x', y', rfl, rfl, l, h1, h2⟩)
  ·obtain ⟨k, ⟨a, hm, e⟩, hs⟩ := (ka (x : Int) (y : Int) s).2 ⟨l, h1, h2⟩
   exact ⟨k, ltsEs_mem.2 ⟨a, List.mem_append_left _ hm, e⟩, hs⟩
  ·obtain ⟨k, ⟨a, hm, e⟩, hs⟩ := (kb (x' : Int) (y' : Int) s).2 ⟨l, h1, h2⟩
   refine ⟨k, ltsEs_mem.2 ⟨shiftA Na a, List.mem_append_right _ (List.mem_map.2 ⟨a, hm, rfl⟩), ?_⟩, hs⟩;unfold arcD at e;injection e with e1 e2;injection e2 with e2 e3;unfold arcD shiftA;simp only;rw [← e1, ← e2, ← e3]
   congr 1
   ·omega
   ·congr 1
    omega
def partO (S : List Int) (e : Ed) : Option Ed := if 0 ≤ posZ S e.1 ∧ 0 ≤ posZ S e.2.2 then some (posZ S e.1, e.2.1, posZ S e.2.2) else none
def partF (S : List Int) (es : List Ed) : List Ed := sortE (es.filterMap (partO S))
def MaxL (l : List Int) (M : Int) : Prop := M ∈ l ∧ ∀ x, x ∈ l → x ≤ M
theorem MaxL.step {l : List Int} {k : Nat} {x M : Int} (h : MaxL (l.take k) M) (hx : l[k]? = some x) : MaxL (l.take (k + 1)) (if M < x then x else M) := by
 rw [List.take_add_one, hx]
 by_cases c : M < x
 ·rw [if_pos c]
  refine ⟨List.mem_append_right _ (List.mem_singleton.2 rfl), fun y hy => ?_⟩
  rcases List.mem_append.1 hy with g | g
  ·have := h.2 y g; omega
  ·have := List.mem_singleton.1 g; omega
 ·rw [if_neg c]
  refine ⟨List.mem_append_left _ h.1, fun y hy => ?_⟩
  rcases List.mem_append.1 hy with g | g
  ·exact h.2 y g
  ·have := List.mem_singleton.1 g; omega
def pv (p : List Int) (x : Int) : Int := p[x.toNat]?.getD 0
def quoO (p : List Int) (e : Ed) : Ed := (pv p e.1, e.2.1, pv p e.2.2)
def quoF (p : List Int) (G : Ed → Bool) (es : List Ed) : List Ed := Lib.compact (sortE ((es.filter G).map (quoO p)))
theorem compactE_rise {l : List Ed} (h : l.Pairwise fun x y => edLess y x = false) : RisE (Lib.compact l) := by
 unfold RisE Lib.compact Lib.compactUpTo;rw [List.pairwise_map];refine List.Pairwise.imp_of_mem (fun {p q} hp hq hpq => ?_) (List.Pairwise.filter _ (List.pairwise_lt_range (n := l.length)));obtain ⟨hp1, -⟩ := List.mem_filter.1 hp;obtain ⟨hq1, hq2⟩ := List.mem_filter.1 hq;have hp1 := List.mem_range.1 hp1;have hq1 := List.mem_range.1 hq1;unfold Lib.keeps at hq2;rw [decide_eq_true_eq] at hq2;have hne : l.toArray[q]! ≠ l.toArray[q - 1]! := hq2.resolve_left (by omega);rw [getElem!_pos _ q (by simpa using hq1), getElem!_pos _ (q - 1) (by simp; omega)] at hne;rw [getElem!_pos _ p (by simpa using hp1), getElem!_pos _ q (by simpa using hq1)];simp only [List.getElem_toArray] at hne ⊢;have h1 := List.pairwise_iff_getElem.1 h (q - 1) q (by omega) hq1 (by omega);have h2 : edLess l[q - 1] l[q] = true := by
  rcases edLess_total (fun e => hne e.symm) with g | g
  ·exact g
  ·rw [h1] at g; cases g
 by_cases e : p = q - 1
 ·subst e; exact h2
 ·have h3 := List.pairwise_iff_getElem.1 h p (q - 1) hp1 (by omega) (by omega)
  by_cases e2 : l[p] = l[q - 1]
  ·rw [e2]; exact h2
  ·rcases edLess_total e2 with g | g
   ·exact edLess_trans g h2
   ·rw [h3] at g; cases g
theorem rise_nodup {l : List Ed} (h : RisE l) : l.Nodup := h.imp fun {a b} g e => by rw [e, edLess_irr] at g; cases g
theorem ltsV_of {st ini : Int} {ls : List ByteArray} {es : List Ed} (h1 : 1 ≤ st ∧ st ≤ 40) (h2 : 0 ≤ ini ∧ ini < st) (hn : namesB ls = true) (hes : es.length ≤ 300) (hr : RisE es)
  (he : ∀ e, e ∈ es → (0 ≤ e.1 ∧ e.1 < st) ∧ (0 ≤ e.2.1 ∧ e.2.1 < (ls.length : Int)) ∧ 0 ≤ e.2.2 ∧ e.2.2 < st) : ltsV (st, ini, ls, es) = true := by
 rw [ltsV_eq];simp only [Bool.and_eq_true, decide_eq_true_eq];refine ⟨⟨inB_true.2 (by omega), inB_true.2 (by omega), hn, hes⟩, allK_good fun k hk => ?_⟩;obtain ⟨⟨f, lb, t⟩, hx⟩ : ∃ x, es[k]? = some x := ⟨_, List.getElem?_eq_getElem hk⟩;have hb := he _ (List.mem_of_getElem? hx)
 (try dsimp only at hb)
 have b1 : inB f 0 (st - 1) = true := inB_true.2 (by omega);have b2 : inB t 0 (st - 1) = true := inB_true.2 (by omega);have b3 : inB lb 0 ((ls.length : Int) - 1) = true := inB_true.2 (by omega)
 by_cases k0 : k = 0
 ·subst k0
  have := okE_zero (st := st) (m := ls.length) hx;rw [this, b1, b2, b3]; rfl
 ·obtain ⟨r, hrr⟩ : ∃ r, es[k - 1]? = some r := ⟨_, List.getElem?_eq_getElem (by omega)⟩
  have := okE_at (st := st) (m := ls.length) hx (by omega) hrr;rw [this, b1, b2, b3];have p := List.pairwise_iff_getElem.1 hr (k - 1) k (by omega) hk (by omega);rw [(List.getElem?_eq_some_iff.1 hrr).2, (List.getElem?_eq_some_iff.1 hx).2] at p;rw [p]; rfl
theorem ltsV_names {st ini : Int} {ls : List ByteArray} {es : List Ed} (h : ltsV (st, ini, ls, es) = true) : namesB ls = true ∧ es.length ≤ 300 := by
 rw [ltsV_eq] at h;simp only [Bool.and_eq_true, decide_eq_true_eq] at h;exact ⟨h.1.2.2.1, h.1.2.2.2⟩
theorem rise_near {es : List Ed} (h : ∀ k r e, 0 < k → es[k - 1]? = some r → es[k]? = some e → edLess r e = true) : RisE es := by
 have key : ∀ d i (hi : i < es.length) (hj : i + 1 + d < es.length), edLess es[i] es[i + 1 + d] = true := by
  intro d
  induction d with
  | zero => exact fun i hi hj => h (i + 1) _ _ (by omega) (List.getElem?_eq_getElem hi) (List.getElem?_eq_getElem hj)
  | succ d ih => exact fun i hi hj => edLess_trans (ih i hi (by omega)) (h (i + 1 + (d + 1)) _ _ (by omega) (List.getElem?_eq_getElem (show i + 1 + (d + 1) - 1 < es.length by omega)) (List.getElem?_eq_getElem hj))
 refine List.pairwise_iff_getElem.2 fun i j hi hj hij => ?_
 have := key (j - i - 1) i hi (by omega);have e : i + 1 + (j - i - 1) = j := by omega
 simpa only [e] using this
theorem ltsV_rise {st ini : Int} {ls : List ByteArray} {es : List Ed} (h : ltsV (st, ini, ls, es) = true) : RisE es := by
 rw [ltsV_eq] at h;simp only [Bool.and_eq_true] at h;refine rise_near fun k r e hk hr he => ?_
 obtain ⟨f, lb, t⟩ := e;have h1 := allK_get h.2 (List.getElem?_eq_some_iff.1 he).1;rw [okE_at he hk hr] at h1;simp only [Bool.and_eq_true] at h1;exact h1.2
theorem reach_mem {N : Nat} {es : List Ed} {ini a : Int} : a ∈ reachF N es ini ↔ ∃ k : Nat, a = (k : Int) ∧ k < N ∧ ReachE es ini k := by
 unfold reachF;rw [List.mem_map]
 constructor
 ·rintro ⟨k, hk, rfl⟩
  obtain ⟨h1, h2⟩ := List.mem_filter.1 hk;exact ⟨k, rfl, List.mem_range.1 h1, reachB_true.1 h2⟩
 ·rintro ⟨k, rfl, h1, h2⟩
  exact ⟨k, List.mem_filter.2 ⟨List.mem_range.2 h1, reachB_true.2 h2⟩, rfl⟩
theorem reach_ini {N ini : Nat} {es : List Ed} (h : ini < N) : (ini : Int) ∈ reachF N es (ini : Int) :=
 reach_mem.2 ⟨ini, rfl, h, 0, by simp [lay, srcE]⟩
theorem joi_nodup (l : List ByteArray) : (joiF l).Nodup := by
 unfold joiF;refine List.Pairwise.map ofL (fun a b h e => ?_) (compact_rise (sortL_rise _));have : a = b := by rw [← toL_ofL a, ← toL_ofL b, e]
 rw [this, ltL_irr] at h
 cases h
theorem uni_lab {la : List ByteArray} {ea : List Ed} {lb : List ByteArray} {eb : List Ed} {Na : Nat}
  (ha : ∀ e, e ∈ ea → 0 ≤ e.2.1 ∧ e.2.1 < (la.length : Int)) (hb : ∀ e, e ∈ eb → 0 ≤ e.2.1 ∧ e.2.1 < (lb.length : Int)) :
  ∀ e, e ∈ uniE la ea lb eb Na → 0 ≤ e.2.1 ∧ e.2.1 < ((joiF (la ++ lb)).length : Int) := by
 intro e he;obtain ⟨a, hm, rfl⟩ := ltsEs_mem.1 he;have lab : ∀ s, s ∈ la ++ lb → 0 ≤ idxZ (joiF (la ++ lb)) s ∧ idxZ (joiF (la ++ lb)) s < ((joiF (la ++ lb)).length : Int) := fun s hs => by
  obtain ⟨k, h1, h2⟩ := idxZ_get ((joi_mem_iff (la ++ lb) s).2 (.inr hs));have := (List.getElem?_eq_some_iff.1 h2).1;omega
 unfold uniA at hm
 rcases List.mem_append.1 hm with h | h
 ·obtain ⟨x, hx, rfl⟩ := List.mem_map.1 h
  exact lab _ (List.mem_append_left lb (arcOf_mem (ha x hx)))
 ·obtain ⟨y, hy, rfl⟩ := List.mem_map.1 h
  obtain ⟨x, hx, rfl⟩ := List.mem_map.1 hy;exact lab _ (List.mem_append_right la (arcOf_mem (hb x hx)))
theorem uni_alike {la : List ByteArray} {ea : List Ed} {lb : List ByteArray} {eb : List Ed} {Na Nb r x y : Nat} (hla : la.length ≤ 100) (hlb : lb.length ≤ 100)
  (ha : ∀ e, e ∈ ea → (0 ≤ e.1 ∧ e.1 < (Na : Int)) ∧ (0 ≤ e.2.1 ∧ e.2.1 < (la.length : Int)) ∧ (0 ≤ e.2.2 ∧ e.2.2 < (Na : Int)))
  (hb : ∀ e, e ∈ eb → (0 ≤ e.1 ∧ e.1 < (Nb : Int)) ∧ (0 ≤ e.2.1 ∧ e.2.1 < (lb.length : Int)) ∧ (0 ≤ e.2.2 ∧ e.2.2 < (Nb : Int)))
  (hL : LastR (uniE la ea lb eb Na) (Na + Nb) r) (hx : x < Na) (hy : y < Nb) :
  (rndP (uniE la ea lb eb Na) (Na + Nb) r)[x]? = (rndP (uniE la ea lb eb Na) (Na + Nb) r)[Na + y]? ↔ Bis (tE la ea) (tE lb eb) x y := by
 have hE : tE (joiF (la ++ lb)) (uniE la ea lb eb Na) = sumE Na (tE la ea) (tE lb eb) := by
  funext a s b
  exact propext (uni_tE ha fun e he => ⟨(hb e he).1.1, (hb e he).2.1, (hb e he).2.2.1⟩)
 have h1 := str_iff (uni_in hla hlb ha hb).1 hL (x := x) (y := Na + y) (by omega) (by omega);have h2 := bis_text (joi_nodup (la ++ lb)) (uni_lab (Na := Na) (fun e he => (ha e he).2.1) (fun e he => (hb e he).2.1)) (x := x) (y := Na + y);rw [hE] at h2;have h3 := bis_sum (A := tE la ea) (B := tE lb eb) (n := Na) (a := x) (b := y) (fun a s b hh => by
  obtain ⟨l, g1, g2⟩ := hh;have := ha _ g1;dsimp only at this
  omega) hx
 exact h1.trans (h2.trans h3)
end Go.Proofs.YtnhomkmfbngmgaaGreatDoor
namespace Go.Proofs.YtnhomkmfbngmgaaGreatDoor
section
variable {K na nb : Int} {ea : List Ed} {la : List ByteArray} {eb : List Ed} {lb : List ByteArray}
end
open Classical in
noncomputable def tabR (n p : Nat) (S : Rel2) : List (List Bool) := (List.range n).map fun x : Nat => (List.range p).map fun y : Nat => decide (S (x : Int) (y : Int))
open Classical in
noncomputable def rowR2 (p : Nat) (S : Rel2) (x : Nat) : List Bool := (List.range p).map fun y : Nat => decide (S (x : Int) (y : Int))
theorem rowR2_len (p : Nat) (S : Rel2) (x : Nat) : (rowR2 p S x).length = p := by simp [rowR2]
theorem tabR_get {n p : Nat} {S : Rel2} {x : Nat} (h : x < n) : (tabR n p S)[x]? = some (rowR2 p S x) := by simp [tabR, rowR2, h]
open Classical in
theorem rowR2_get {p : Nat} {S : Rel2} {x y : Nat} (h : y < p) : (rowR2 p S x)[y]? = some (decide (S (x : Int) (y : Int))) := by simp [rowR2, h]
end Go.Proofs.YtnhomkmfbngmgaaGreatDoor
