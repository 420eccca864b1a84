/-
  Lemmas that the law of this claim leans on. Conditions: sizes.
-/
import Derived.Test.YtnhomkmfbngmgaaGreatDoorBaseI
import Derived.Test.YtnhomkmfbngmgaaGreatDoorBaseJ
import Derived.Test.YtnhomkmfbngmgaaGreatDoorBaseK
import Derived.Test.YtnhomkmfbngmgaaGreatDoorBaseM
import Derived.Deep.DeepCutAuto
set_option maxHeartbeats 12800000
set_option maxRecDepth 100000
set_option linter.unusedSimpArgs false
set_option linter.unusedVariables false
namespace Go.Proofs.YtnhomkmfbngmgaaGreatDoor
open Go.ChangeShapes Go.WideShapes Go.ChangeAt Go.RowKit Go.Sort
theorem l15InertP_calls (bE N : Nat) (P : Option Addr) (cP : Nat) (p : List Int) (f t : Nat) (l : Int) (w : World) (lo hi : Nat) (z0 : w.cell? ⟨bE, 0, none⟩ = some (.int .i64 (f : Int))) (z1 : w.cell? ⟨bE, 1, none⟩ = some (.int .i64 l)) (z2 : w.cell? ⟨bE, 2, none⟩ = some (.int .i64 (t : Int))) (hP : SlI w lo hi P N p) (hf : f < N) (ht : t < N) :
  Calls Tryz.prog 246 #[.pointer (some ⟨bE, 0, none⟩), .slice P N cP] w (Says (inG p ((f : Int), l, (t : Int))) w) := by
 obtain ⟨gP, oP, pf, rfl, -, -, hgP, hpf, cf, -⟩ := SlI.get hP hf;obtain ⟨gP2, oP2, pt, e2, -, -, -, hpt, ct, -⟩ := SlI.get hP ht;cases e2;have hval : Hid (inG p ((f : Int), l, (t : Int)) = ((l == 0) && (pf == pt))) := by
  show _ = _
  unfold inG;simp only [Int.toNat_natCast, hpf, hpt]
  by_cases h1 : l = 0 <;> by_cases h2 : pf = pt <;> simp [h1, h2]
 have hI2 : (0 : Int) ≤ (f : Int) := by omega
 have hI3 : (f : Int) < (N : Int) := by omega
 have hI4 : (0 : Int) ≤ (t : Int) := by omega
 have hI5 : (t : Int) < (N : Int) := by omega
 replace hpf := hide hpf;replace hpt := hide hpt;clear hP
 by_cases hl : l = 0
 ·subst hl
  have g1 : ((0 : Int) == 0) = true := rfl;go_enter Tryz.func246, Tryz.ntmps246;go_upto_region 1 with fail;go_quiet (fail);go_wp2_with fail;go_ret;exact ⟨by rw [hval.out]; rfl, below_drewN _ _⟩
 ·have g1 : (l == 0) = false := beq_eq_false_iff_ne.2 hl
  go_enter Tryz.func246, Tryz.ntmps246;go_upto_region 1 with fail;go_quiet (fail);go_wp2_with fail;go_ret;exact ⟨by rw [hval.out, g1]; rfl, below_drewN _ _⟩
def MkB (w wr : World) (N : Nat) (b : List Bool) : Prop := SlB wr w.heap.size (w.heap.size + 1) (some ⟨w.heap.size, 0, none⟩) N b ∧ b.length = N
theorem MkB.below {w wr wx : World} {N : Nat} {b : List Bool} (h : MkB w wr N b) (hz : w.heap.size + 1 ≤ wr.heap.size) (hb : Below wr.heap.size wr wx) : MkB w wx N b := ⟨h.1.below hb (.inl hz), h.2⟩
theorem MkB.put {w wr : World} {N : Nat} {b : List Bool} (h : MkB w wr N b) {k : Nat} (hk : k < N) (x : Bool) : MkB w (wr.setCell ⟨w.heap.size, k, none⟩ (.bool x)) N (b.set k x) := by
 have := h.1.put hk x;rw [Nat.zero_add] at this;exact ⟨this, by rw [List.length_set]; exact h.2⟩
theorem MkB.at_ {w wr : World} {N : Nat} {b : List Bool} (h : MkB w wr N b) {k : Nat} (hk : k < N) : wr.cell? ⟨w.heap.size, k, none⟩ = some (.bool (inS b k)) ∧ wr.frozen? ⟨w.heap.size, k, none⟩ = false := by
 obtain ⟨h1, h2, -⟩ := h.1.cell' hk;rw [Nat.zero_add] at h1 h2;exact ⟨h1, h2⟩
theorem l15ReachP_calls {w : World} {N ini : Nat} {A : Option Addr} {n : Nat} {B : Option Addr} {m : Nat} {ls : List ByteArray} {es : List Ed} (h : SysA w N ini A n B m ls es) (c d bx : Nat) (hbx : LtsBox w bx (N : Int) (ini : Int) A n c B m d) (P : Option Addr) (cP : Nat) (p : List Int) (hP : SlI w 0 w.heap.size P N p) (k : Nat) (hk : k < N) :
  Calls Tryz.prog 304 #[.pointer (some ⟨bx, 0, none⟩), .slice P N cP, .int .i64 (k : Int)] w fun e w' => ∃ b, e = .returned (.slice (some ⟨w.heap.size, 0, none⟩) N N) ∧ MkB w w' N b ∧ w.heap.size + 1 ≤ w'.heap.size ∧ Below w.heap.size w w' := by
 have hmn := h.many;obtain ⟨⟨hN1, hN2⟩, hini⟩ := h.bounds;have hthr := hide h.three;have hAll : ∀ wx, Below w.heap.size w wx → SysA wx N ini A n B m ls es ∧ LtsBox wx bx (N : Int) (ini : Int) A n c B m d ∧ SlI wx 0 w.heap.size P N p := fun wx hx => ⟨h.below hx zR, hbx.below hx hbx.lt, hP.below hx (.inl zR)⟩
 replace hAll := hide hAll;have b0 := hbx.c0;have hmk := run_make_bool N (by omega);obtain ⟨w1, hw1⟩ : ∃ w1, w1 = w.alloc (.cells (madeCells #[.bool false] N) 4) := ⟨_, rfl⟩;have hb1 : Below w.heap.size w w1 := by rw [hw1]; exact bR.alloc zR _
 have hM1 : MkB w w1 N (setOf N fun _ => false) := by rw [hw1]; exact ⟨SlB.made w N, by simp [setOf]⟩
 have hz1 : w.heap.size + 1 ≤ w1.heap.size := by rw [hw1, World.size_alloc]; exact zR
 obtain ⟨d0, d1⟩ := hM1.at_ hk;have hM2 := hM1.put hk true;have hb2 := hb1.setCell (p := ⟨w.heap.size, k, none⟩) zR (.bool true);obtain ⟨w2, hw2⟩ : ∃ w2, w2 = w1.setCell ⟨w.heap.size, k, none⟩ (.bool true) := ⟨_, rfl⟩;rw [← hw2] at hM2 hb2;have hw2' : w2 = w.alloc (.cells ((madeCells #[.bool false] N).setIfInBounds k (.bool true)) 4) := by
  rw [hw2, hw1]; exact World.setCell_alloc_at (w := w) (madeCells #[.bool false] N) 4 w.heap.size k (.bool true) rfl
 have hz2 : w.heap.size + 1 ≤ w2.heap.size := by rw [hw2, World.size_setCell]; exact hz1
 have k0 : (0 : Int) ≤ (k : Int) := by omega
 have k1 : (k : Int) < (N : Int) := by omega
 generalize (setOf N fun _ => false).set k true = s0 at hM2;replace hM2 := hide hM2;replace hb2 := hide hb2;replace hb1 := hide hb1;clear h hbx hP hM1;go_enter Tryz.func304, Tryz.ntmps304;rw [hw1] at d0 d1;go_upto_region 3 with fail;rw [← show w2 = _ from hw2'];replace hw1 := hide hw1;replace hw2 := hide hw2;clear d0 d1 b0 hw2';go_wp2_with fail
 go_loopg [8] (N + 1) (fun G v8 wr => ∃ (s : List Bool) (mo : Bool), v8 = .bool mo ∧ Hid (MkB w wr N s) ∧ w.heap.size + 1 ≤ wr.heap.size ∧ Hid (Below w.heap.size w wr) ∧ Hid (N + (if mo = true then 1 else 0) ≤ G + numBR s))
 case atStart => exact ⟨s0, true, rfl, hM2.out, hz2, hb2.out, by show _ ≤ _; rw [if_pos rfl]; omega⟩
 case round =>
  clear hM2 hb2;obtain ⟨s, mo, rfl, hs, hzr, hb, hG⟩ := hrel
  cases mo with
  | false =>
   go_wp2_with fail;go_ret
   exact ⟨s, rfl, hs.out, hzr, hb.out⟩
  | true =>
   have hg1 := hG.out;rw [if_pos rfl] at hg1;have hnl := numBR_le s;rw [hs.out.2] at hnl;obtain ⟨G2, rfl⟩ : ∃ G2, gk = G2 + 1 := ⟨gk - 1, by omega⟩;have hs0 := hs;have hb0 := hb;have hz0 := hzr;obtain ⟨wo, rfl⟩ : ∃ wo : World, wo = wr := ⟨_, rfl⟩;clear hG hs hb hzr;go_upto_region 7 with fail
   go_loopw [8, 9] (fun v8 v9 wr => ∃ (j : Nat) (mo : Bool) (u : List Bool), j ≤ m ∧ v9 = .int .i64 (j : Nat) ∧ v8 = .bool mo ∧ Hid (MkB w wr N u) ∧ w.heap.size + 1 ≤ wr.heap.size ∧ Hid (Below w.heap.size w wr) ∧ Hid (N + (if mo = true then 1 else 0) ≤ G2 + numBR u)) (fun _ v _ => m - (intOf v).toNat)
   case atStart => exact ⟨0, false, s, Nat.zero_le _, rfl, rfl, hs0.out, hz0, hb0.out, by show _ ≤ _; rw [if_neg (by decide)]; omega⟩
   case round =>
    clear hs0 hb0;obtain ⟨j, mo, u, hj, rfl, rfl, hs, hz, hb, hG⟩ := hrel;have b3 := (hAll.out wr hb.out).2.1.c3
    by_cases hjlt : j < m
    ·have j0 : (0 : Int) ≤ (j : Int) := by omega
     have j1 : (j : Int) < (m : Int) := by omega
     obtain ⟨hSy, -, -⟩ := hAll.out wr hb.out;obtain ⟨gB, oB, f, l, t, rfl, -, -, hgB, hx, x0, x1, x2, -⟩ := SlE.get hSy.se hjlt;have hin := hthr.out _ (List.mem_of_getElem? hx)
     (try dsimp only at hin)
     obtain ⟨⟨hf0, hf1⟩, ⟨hl0, hl1⟩, ht0, ht1⟩ := hin;obtain ⟨f, rfl⟩ : ∃ k : Nat, f = (k : Int) := ⟨f.toNat, by omega⟩;obtain ⟨t, rfl⟩ : ∃ k : Nat, t = (k : Int) := ⟨t.toNat, by omega⟩;have hfN : f < N := by omega
     have htN : t < N := by omega
     obtain ⟨wE, hwE⟩ : ∃ wE, wE = wr.alloc (.cells #[.int .i64 (f : Int), .int .i64 l, .int .i64 (t : Int)] 84) := ⟨_, rfl⟩;obtain ⟨bE, hbE0⟩ : ∃ bE, bE = wr.heap.size := ⟨_, rfl⟩;have hbE : Below wr.heap.size wr wE := by rw [hwE]; exact bR.alloc zR _
     have kE : wE.heap[bE]? = some (.cells #[.int .i64 (f : Int), .int .i64 l, .int .i64 (t : Int)] 84 (0, 0)) := by rw [hwE, hbE0]; exact heap_alloc_new wr _
     have z0 : wE.cell? ⟨bE, 0, none⟩ = some (.int .i64 (f : Int)) := cR 0 kE;have z1 : wE.cell? ⟨bE, 1, none⟩ = some (.int .i64 l) := cR 1 kE;have z2 : wE.cell? ⟨bE, 2, none⟩ = some (.int .i64 (t : Int)) := cR 2 kE;have hbW := hide (hb.out.trans (hbE.mono hb.out.size));have hPE := (hAll.out wE hbW.out).2.2;have qI := hide (l15InertP_calls bE N P cP p f t l wE _ _ z0 z1 z2 hPE hfN htN);have f0' : (0 : Int) ≤ (f : Int) := by omega
     have f1' : (f : Int) < (N : Int) := by omega
     have t0' : (0 : Int) ≤ (t : Int) := by omega
     have t1' : (t : Int) < (N : Int) := by omega
     generalize hig : inG p ((f : Int), l, (t : Int)) = ig at qI;replace hig := hide hig;replace kE := hide kE;replace hx := hide hx;have hbEh := hide hbE;have hzr := hb.out.size;have hsE := hide (hs.out.below hz hbE);have hzE : w.heap.size + 1 ≤ wE.heap.size := Nat.le_trans hz hbE.size;obtain ⟨m0, -⟩ := hsE.out.at_ hfN;obtain ⟨m1, m2⟩ := hsE.out.at_ htN;clear hSy hbE hs;go_upto_region 10 with fail;clear b3 x0 x1 x2;rw [← show wE = _ from hwE, ← hbE0];replace hwE := hide hwE;replace hbE0 := hide hbE0
     cases hf : inS u f with
     | false =>
      rw [hf] at m0;replace hf := hide hf;clear qI;go_wp2_with fail;go_roundw
      case rel => exact ⟨j + 1, mo, u, by omega, by go_num, rfl, hsE.out, hzE, hbW.out, hG.out⟩
      case measure => simp [intOf]; omega
     | true =>
      rw [hf] at m0;replace hf := hide hf
      cases ht : inS u t with
      | true =>
       rw [ht] at m1;replace ht := hide ht;clear qI;go_wp2_with fail;go_roundw
       case rel => exact ⟨j + 1, mo, u, by omega, by go_num, rfl, hsE.out, hzE, hbW.out, hG.out⟩
       case measure => simp [intOf]; omega
      | false =>
       rw [ht] at m1;go_wp2_with fail;refine qI.out.mono ?_;rintro e w4 ⟨rfl, hb4⟩;have hs4 := hide (hsE.out.below hzE hb4);have hz4 : w.heap.size + 1 ≤ w4.heap.size := Nat.le_trans hzE hb4.size;have hb4W := hide (hbW.out.trans (hb4.mono hbW.out.size));obtain ⟨n1, n2⟩ := hs4.out.at_ htN;have z24 := (hb4.cell (p := ⟨bE, 2, none⟩) (Array.getElem?_eq_some_iff.1 kE.out).1).trans z2;clear qI hb4 z0 z1 z2 m0 m1 m2
       cases ig with
       | false =>
        replace ht := hide ht;go_wp2_with fail;go_roundw
        case rel => exact ⟨j + 1, mo, u, by omega, by go_num, rfl, hs4.out, hz4, hb4W.out, hG.out⟩
        case measure => simp [intOf]; omega
       | true =>
        have hs5 := hide (hs4.out.put htN true);have hb5 := hide (hb4W.out.setCell (p := ⟨w.heap.size, t, none⟩) zR (.bool true));have hG5 : Hid (N + (if true = true then 1 else 0) ≤ G2 + numBR (u.set t true)) := by
         have h1 := numBR_set (s := u) (v := t) (by rw [hs4.out.2]; exact htN) ht;have h2 := hG.out
         show _ ≤ _
         rw [if_pos rfl, h1]
         split at h2 <;> omega
        replace ht := hide ht;go_wp2_with fail;go_roundw
        case rel => exact ⟨j + 1, true, u.set t true, by omega, by go_num, rfl, hs5.out, by rw [World.size_setCell]; exact hz4, hb5.out, hG5.out⟩
        case measure => simp [intOf]; omega
    ·obtain rfl : j = m := by omega
     have i1 : ¬ (j : Int) < (j : Int) := by omega
     go_wp2_with fail
     go_roundg G2
     case rel => exact ⟨u, mo, rfl, hs.out, hz, hb.out, hG.out⟩
     case measure => exact Nat.lt_succ_self _
theorem l15Offers_calls {w : World} {N ini : Nat} {A : Option Addr} {n : Nat} {B : Option Addr} {m : Nat} {ls : List ByteArray} {es : List Ed} (h : SysA w N ini A n B m ls es) (c d bx : Nat) (hbx : LtsBox w bx (N : Int) (ini : Int) A n c B m d) (P : Option Addr) (cP : Nat) (p : List Int) (hP : SlI w 0 w.heap.size P N p) (hp : ∀ x, x ∈ p → 0 ≤ x ∧ x ≤ 1000) (k : Nat) (hk : k < N) :
  Calls Tryz.prog 243 #[.pointer (some ⟨bx, 0, none⟩), .slice P N cP, .int .i64 (k : Int)] w fun e w' => ∃ A' n' c' l', e = .returned (.slice A' n' c') ∧ Own 1 iv w' w.heap.size 2 A' n' c' l' ∧ n' ≤ 300 ∧ Below w.heap.size w w' := by
 have hmn := h.many;obtain ⟨⟨hN1, hN2⟩, hini⟩ := h.bounds;have hthr := hide h.three;have hAll : ∀ wx, Below w.heap.size w wx → SysA wx N ini A n B m ls es ∧ LtsBox wx bx (N : Int) (ini : Int) A n c B m d ∧ SlI wx 0 w.heap.size P N p := fun wx hx => ⟨h.below hx zR, hbx.below hx hbx.lt, hP.below hx (.inl zR)⟩
 replace hAll := hide hAll;have b0 := hbx.c0;have q := hide (l15ReachP_calls h c d bx hbx P cP p hP k hk);clear h hbx hP;go_enter Tryz.func243, Tryz.ntmps243;go_wp2_with fail;refine q.out.mono ?_;rintro e w2 ⟨sb, rfl, hM, hz2, hb2⟩;obtain ⟨w3, hw3⟩ : ∃ w3, w3 = w2.alloc (.cells #[] 2) := ⟨_, rfl⟩;have hb23 : Below w2.heap.size w2 w3 := by rw [hw3]; exact bR.alloc zR _
 have hM3 := hide (hM.below hz2 hb23);have hb3 := hide (hb2.trans (hb23.mono hb2.size));have hz3 : w.heap.size + 1 ≤ w3.heap.size := Nat.le_trans hz2 hb23.size;have hO3 : Hid (SlI w3 w2.heap.size w3.heap.size (some ⟨w2.heap.size, 0, none⟩) 0 []) := ⟨rfl, fun h => absurd h (Nat.lt_irrefl 0)⟩;have hOw3 : Hid (Own 1 iv w3 w2.heap.size 2 (some ⟨w2.heap.size, 0, none⟩) 0 0 []) := by show Own _ _ _ _ _ _ _ _ _; rw [hw3]; exact Own.made w2 _ zR
 have hz23 := hb23.size;clear q hM hb2 hb23 b0;go_upto_region 3 with fail;rw [← show w3 = _ from hw3];replace hw3 := hide hw3;go_wp2_with fail
 go_loopw [8, 9] (fun v8 v9 wr => ∃ (j n5 c5 : Nat) (A5 : Option Addr) (L : List Int), j ≤ m ∧ v9 = .int .i64 (j : Nat) ∧ v8 = .slice A5 n5 c5 ∧ n5 ≤ j ∧ Hid (Own 1 iv wr w2.heap.size 2 A5 n5 c5 L) ∧ Hid (L.Pairwise (· < ·)) ∧ Hid (MkB w wr N sb) ∧ w.heap.size + 1 ≤ wr.heap.size ∧ Hid (Below w.heap.size w wr) ∧ Hid (w2.heap.size ≤ wr.heap.size)) (fun _ v _ => m - (intOf v).toNat)
 case atStart => exact ⟨0, 0, 0, _, [], Nat.zero_le _, rfl, rfl, zR, hOw3.out, List.Pairwise.nil, hM3.out, hz3, hb3.out, hz23⟩
 case round =>
  clear hOw3 hO3 hM3 hb3;obtain ⟨j, n5, c5, A5, L, hj, rfl, rfl, hn5, hO, hL, hs, hz, hb, hz2r⟩ := hrel;have b3 := (hAll.out wr hb.out).2.1.c3
  by_cases hjlt : j < m
  ·have j0 : (0 : Int) ≤ (j : Int) := by omega
   have j1 : (j : Int) < (m : Int) := by omega
   obtain ⟨hSy, -, -⟩ := hAll.out wr hb.out;obtain ⟨gB, oB, f, l, t, rfl, -, -, hgB, hx, x0, x1, x2, -⟩ := SlE.get hSy.se hjlt;have hin := hthr.out _ (List.mem_of_getElem? hx)
   (try dsimp only at hin)
   obtain ⟨⟨hf0, hf1⟩, ⟨hl0, hl1⟩, ht0, ht1⟩ := hin;obtain ⟨f, rfl⟩ : ∃ k : Nat, f = (k : Int) := ⟨f.toNat, by omega⟩;obtain ⟨t, rfl⟩ : ∃ k : Nat, t = (k : Int) := ⟨t.toNat, by omega⟩;have hfN : f < N := by omega
   have htN : t < N := by omega
   obtain ⟨wE, hwE⟩ : ∃ wE, wE = wr.alloc (.cells #[.int .i64 (f : Int), .int .i64 l, .int .i64 (t : Int)] 84) := ⟨_, rfl⟩;obtain ⟨bE, hbE0⟩ : ∃ bE, bE = wr.heap.size := ⟨_, rfl⟩;have hbE : Below wr.heap.size wr wE := by rw [hwE]; exact bR.alloc zR _
   have kE : wE.heap[bE]? = some (.cells #[.int .i64 (f : Int), .int .i64 l, .int .i64 (t : Int)] 84 (0, 0)) := by rw [hwE, hbE0]; exact heap_alloc_new wr _
   have z0 : wE.cell? ⟨bE, 0, none⟩ = some (.int .i64 (f : Int)) := cR 0 kE;have z1 : wE.cell? ⟨bE, 1, none⟩ = some (.int .i64 l) := cR 1 kE;have z2 : wE.cell? ⟨bE, 2, none⟩ = some (.int .i64 (t : Int)) := cR 2 kE;have hbW := hide (hb.out.trans (hbE.mono hb.out.size));have hPE := (hAll.out wE hbW.out).2.2;have qI := hide (l15InertP_calls bE N P cP p f t l wE _ _ z0 z1 z2 hPE hfN htN);have f0' : (0 : Int) ≤ (f : Int) := by omega
   have f1' : (f : Int) < (N : Int) := by omega
   have t0' : (0 : Int) ≤ (t : Int) := by omega
   have t1' : (t : Int) < (N : Int) := by omega
   generalize hig : inG p ((f : Int), l, (t : Int)) = ig at qI;replace hig := hide hig;replace kE := hide kE;replace hx := hide hx;have hbEh := hide hbE;have hzr := hb.out.size;have hsE := hide (hs.out.below hz hbE);have hzE : w.heap.size + 1 ≤ wE.heap.size := Nat.le_trans hz hbE.size;have hOE := hide (hO.out.below hbE zR);obtain ⟨m0, -⟩ := hsE.out.at_ hfN;clear hSy hs hO hbE;go_upto_region 7 with fail;clear b3 x0 x1 x2;rw [← show wE = _ from hwE, ← hbE0];replace hwE := hide hwE;replace hbE0 := hide hbE0
   cases hf : inS sb f with
   | false =>
    rw [hf] at m0;replace hf := hide hf;clear qI;go_wp2_with fail;go_roundw
    case rel => exact ⟨j + 1, n5, c5, A5, L, by omega, by go_num, rfl, by omega, hOE.out, hL.out, hsE.out, hzE, hbW.out, Nat.le_trans hz2r.out hbEh.out.size⟩
    case measure => simp [intOf]; omega
   | true =>
    rw [hf] at m0;replace hf := hide hf;go_wp2_with fail;refine qI.out.mono ?_;rintro e w4 ⟨rfl, hb4⟩;have hs4 := hide (hsE.out.below hzE hb4);have hz4 : w.heap.size + 1 ≤ w4.heap.size := Nat.le_trans hzE hb4.size;have hb4W := hide (hbW.out.trans (hb4.mono hbW.out.size));have hO4 := hide (hOE.out.below hb4 zR);have kE4 := hide ((hb4.block _ (Array.getElem?_eq_some_iff.1 kE.out).1).trans kE.out);have hz24 := hide (Nat.le_trans hz2r.out (Nat.le_trans hbEh.out.size hb4.size));clear qI hb4 z0 z1 z2 m0
    cases ig with
    | true =>
     go_wp2_with fail;go_roundw
     case rel => exact ⟨j + 1, n5, c5, A5, L, by omega, by go_num, rfl, by omega, hO4.out, hL.out, hs4.out, hz4, hb4W.out, hz24.out⟩
     case measure => simp [intOf]; omega
    | false =>
     obtain ⟨gP, oP, pt, rfl, -, -, hgP0, hpt, -, -⟩ := SlI.get (hAll.out w4 hb4W.out).2.2 htN;have hpr := hp pt (List.mem_of_getElem? hpt);have hlN0 : 0 ≤ l * (N : Int) := Int.mul_nonneg hl0 (by omega);have hlN1 : l * (N : Int) ≤ 12 * 40 := Int.mul_le_mul (by omega) (by omega) (by omega) (by omega);have hm1 : IntKind.i64.wrap (l * (N : Int)) = l * (N : Int) := IntWalk.i64_in _ (by omega);have hm2 : IntKind.i64.wrap (l * (N : Int) + pt) = l * (N : Int) + pt := IntWalk.i64_in _ (by omega);obtain ⟨wD, hwD⟩ : ∃ wD, wD = w4.drew := ⟨_, rfl⟩;have hbD : Below w4.heap.size w4 wD := by rw [hwD]; exact bR.drew
     have hOD := hO4.out.below hbD zR;have hq := hide (l00Put_calls A5 n5 c5 L (l * (N : Int) + pt) wD _ _ (hOD.sl flat_iv) hL.out (by omega));have hSS : Hid (∀ wx, Below wD.heap.size wD wx → wx.cell? ⟨bE, 1, none⟩ = some (.int .i64 l) ∧ wx.cell? ⟨bE, 2, none⟩ = some (.int .i64 (t : Int)) ∧ wx.cell? ⟨gP, oP + t, none⟩ = some (.int .i64 pt)) := fun wx hx2 => by
      have h1 := hbD.trans (hx2.mono hbD.size);have k8 := (h1.block _ (Array.getElem?_eq_some_iff.1 kE4.out).1).trans kE4.out;obtain ⟨g2, o2, v2, e2, -, -, -, hv2, c2, -⟩ := SlI.get (hAll.out wx (hb4W.out.trans (h1.mono hb4W.out.size))).2.2 htN;cases e2;rw [hpt] at hv2
      cases hv2
      exact ⟨cR 1 k8, cR 2 k8, c2⟩
     have hbDh := hide hbD;have hasc := hide (putI_asc (n := l * (N : Int) + pt) hL.out);replace hwD := hide hwD;replace hpt := hide hpt;clear hbD hOD;go_upto_region 8 with fail
     focus
        refine lateT_begin (S := fun w' => w'.cell? ⟨bE, 1, none⟩ = some (.int .i64 l) ∧ w'.cell? ⟨bE, 2, none⟩ = some (.int .i64 (t : Int)) ∧ w'.cell? ⟨gP, oP + t, none⟩ = some (.int .i64 pt)) (st := 13) (by kernel_rfl) ?_;rw [← show wD = _ from hwD.out];have hS0 : (fun w' : World => w'.cell? ⟨bE, 1, none⟩ = some (.int .i64 l) ∧ w'.cell? ⟨bE, 2, none⟩ = some (.int .i64 (t : Int)) ∧ w'.cell? ⟨gP, oP + t, none⟩ = some (.int .i64 pt)) wD := hSS.out wD bR;refine tkB 0 [13] hS0 ?_;refine tkB 1 [13] hS0 ?_;refine tkB 2 [13] hS0 ?_;refine tkB 3 [13] hS0 ?_;refine tkB 6 [13] hS0 ?_;refine tkB 7 [13] hS0 ?_;refine tkB 8 [13] hS0 ?_;refine tkB 9 [13] hS0 ?_;refine tkB 10 [13] hS0 ?_;refine lS 4 fun K hK => ?_
        go_simp;refine kP hK (fun _ => hSS.out wD bR) ?_
        clear hK K;refine lS 5 fun K hK => ?_
        go_simp;refine kP hK (fun _ => hSS.out wD bR) ?_
        clear hK K;refine lS 11 fun K hK => ?_
        go_simp;refine kP hK (fun _ => hSS.out wD bR) ?_
        clear hK K;refine lS 12 fun K hK => ?_
        go_simp;go_at_call 256
        (with_reducible refine hq.out.mono ?_)
        rintro e w6 ⟨A7, n7, c7, rfl, hO7, hn7, hb7⟩;have hS7 := hide (hSS.out w6 hb7);have hb7h := hide hb7;have hO7h := hide hO7;clear hO7 hb7
        (try go_wp2_with fail)
        refine kP hK (fun _ => hS7.out) ?_;clear hK K;refine lS 13 fun K hK => ?_
        go_simp;refine kP hK nH ?_
        clear hK K;refine lateT_done (by kernel_rfl) ?_ _;have hs7 := hide (hs4.out.below hz4 (hbDh.out.trans (hb7h.out.mono hbDh.out.size)));have hb7W := hide (hb4W.out.trans ((hbDh.out.trans (hb7h.out.mono hbDh.out.size)).mono hb4W.out.size));have hO8 := hide (hO7h.out.sink (show w2.heap.size ≤ wD.heap.size from Nat.le_trans hz24.out hbDh.out.size));have hz7 : w.heap.size + 1 ≤ w6.heap.size := Nat.le_trans hz4 (Nat.le_trans hbDh.out.size hb7h.out.size);go_wp2_with fail;go_roundw
        case rel => exact ⟨j + 1, n7, c7, A7, _, by omega, by go_num, rfl, by omega, hO8.out, hasc.out, hs7.out, hz7, hb7W.out, Nat.le_trans hz24.out (Nat.le_trans hbDh.out.size hb7h.out.size)⟩
        case measure => simp [intOf]; omega
  ·obtain rfl : j = m := by omega
   have i1 : ¬ (j : Int) < (j : Int) := by omega
   have hOF := hide (hO.out.sink (show w.heap.size ≤ w2.heap.size by omega));go_wp2_with fail;go_ret;exact ⟨A5, n5, c5, rfl, ⟨L, hOF.out⟩, by omega, hb.out⟩
theorem l15Diverge_calls {w : World} {N ini : Nat} {A : Option Addr} {n : Nat} {B : Option Addr} {m : Nat} {ls : List ByteArray} {es : List Ed} (h : SysA w N ini A n B m ls es) (c d bx : Nat) (hbx : LtsBox w bx (N : Int) (ini : Int) A n c B m d) (P : Option Addr) (cP : Nat) (p : List Int) (hP : SlI w 0 w.heap.size P N p) :
  Calls Tryz.prog 242 #[.pointer (some ⟨bx, 0, none⟩), .slice P N cP] w fun e w' => ∃ b, e = .returned (.slice (some ⟨w.heap.size, 0, none⟩) N N) ∧ MkB w w' N b ∧ w.heap.size + 1 ≤ w'.heap.size ∧ Below w.heap.size w w' := by
 have hmn := h.many;obtain ⟨⟨hN1, hN2⟩, hini⟩ := h.bounds;have hthr := hide h.three;have hAll : ∀ wx, Below w.heap.size w wx → SysA wx N ini A n B m ls es ∧ LtsBox wx bx (N : Int) (ini : Int) A n c B m d ∧ SlI wx 0 w.heap.size P N p := fun wx hx => ⟨h.below hx zR, hbx.below hx hbx.lt, hP.below hx (.inl zR)⟩
 replace hAll := hide hAll;have b0 := hbx.c0;have hmk := run_make_bool N (by omega);obtain ⟨w1, hw1⟩ : ∃ w1, w1 = w.alloc (.cells (madeCells #[.bool false] N) 4) := ⟨_, rfl⟩;have hb1 : Hid (Below w.heap.size w w1) := by show Below _ _ _; rw [hw1]; exact bR.alloc zR _
 have hM1 : Hid (MkB w w1 N (setOf N fun _ => false)) := by show MkB _ _ _ _; rw [hw1]; exact ⟨SlB.made w N, by simp [setOf]⟩
 have hz1 : w.heap.size + 1 ≤ w1.heap.size := by rw [hw1, World.size_alloc]; exact zR
 clear h hbx hP;go_enter Tryz.func242, Tryz.ntmps242;go_upto_region 2 with fail;rw [← show w1 = _ from hw1];replace hw1 := hide hw1;clear b0;go_wp2_with fail
 go_loopw [6] (fun v6 wr => ∃ (k : Nat) (b : List Bool), k ≤ N ∧ v6 = .int .i64 (k : Nat) ∧ Hid (MkB w wr N b) ∧ w.heap.size + 1 ≤ wr.heap.size ∧ Hid (Below w.heap.size w wr)) (fun v _ => N - (intOf v).toNat)
 case atStart => exact ⟨0, _, Nat.zero_le _, rfl, hM1.out, hz1, hb1.out⟩
 case round =>
  clear hM1 hb1;obtain ⟨k, b, hk, rfl, hs, hz, hb⟩ := hrel;have b0 := (hAll.out wr hb.out).2.1.c0
  by_cases hlt : k < N
  ·have k0 : (0 : Int) ≤ (k : Int) := by omega
   have k1 : (k : Int) < (N : Int) := by omega
   obtain ⟨m1, m2⟩ := hs.out.at_ hlt;have hs5 := hide (hs.out.put hlt true);have hb5 := hide (hb.out.setCell (p := ⟨w.heap.size, k, none⟩) zR (.bool true));go_wp2_with fail;go_roundw
   case rel => exact ⟨k + 1, b.set k true, by omega, by go_num, hs5.out, by rw [World.size_setCell]; exact hz, hb5.out⟩
   case measure => simp [intOf]; omega
  ·have k1 : ¬ (k : Int) < (N : Int) := by omega
   obtain ⟨wK, rfl⟩ : ∃ wK : World, wK = wr := ⟨_, rfl⟩;have hsK := hs;have hbK := hb;have hzK := hz;clear hs hb hz;go_upto_region 7 with fail;clear b0
   go_loopg [7] (N + 1) (fun G v7 wr => ∃ (s : List Bool) (mo : Bool), v7 = .bool mo ∧ Hid (MkB w wr N s) ∧ w.heap.size + 1 ≤ wr.heap.size ∧ Hid (Below w.heap.size w wr) ∧ Hid (numBR s + (if mo = true then 1 else 0) ≤ G))
   case atStart => exact ⟨b, true, rfl, hsK.out, hzK, hbK.out, by show _ ≤ _; rw [if_pos rfl]; have := numBR_le b; rw [hsK.out.2] at this; omega⟩
   case round =>
    clear hsK hbK;obtain ⟨s, mo, rfl, hs, hzr, hb, hG⟩ := hrel
    cases mo with
    | false =>
     go_wp2_with fail;go_ret
     exact ⟨s, rfl, hs.out, hzr, hb.out⟩
    | true =>
     have hg1 := hG.out;rw [if_pos rfl] at hg1;obtain ⟨G2, rfl⟩ : ∃ G2, gk = G2 + 1 := ⟨gk - 1, by omega⟩;have hs0 := hs;have hb0 := hb;have hz0 := hzr;obtain ⟨wo, rfl⟩ : ∃ wo : World, wo = wr := ⟨_, rfl⟩;clear hG hs hb hzr;go_upto_region 10 with fail
     go_loopw [7, 8] (fun v7 v8 wr => ∃ (k : Nat) (mo : Bool) (u : List Bool), k ≤ N ∧ v8 = .int .i64 (k : Nat) ∧ v7 = .bool mo ∧ Hid (MkB w wr N u) ∧ w.heap.size + 1 ≤ wr.heap.size ∧ Hid (Below w.heap.size w wr) ∧ Hid (numBR u + (if mo = true then 1 else 0) ≤ G2)) (fun _ v _ => N - (intOf v).toNat)
     case atStart => exact ⟨0, false, s, Nat.zero_le _, rfl, rfl, hs0.out, hz0, hb0.out, by show _ ≤ _; rw [if_neg (by decide)]; omega⟩
     case round =>
      clear hs0 hb0;obtain ⟨k, mo, u, hk, rfl, rfl, hs, hz, hb, hG⟩ := hrel;have b0 := (hAll.out wr hb.out).2.1.c0
      by_cases hlt : k < N
      ·have k0 : (0 : Int) ≤ (k : Int) := by omega
       have k1 : (k : Int) < (N : Int) := by omega
       obtain ⟨m1, m2⟩ := hs.out.at_ hlt
       by_cases hu : inS u k = true
       ·rw [hu] at m1
        replace hu := hide hu;obtain ⟨wO, rfl⟩ : ∃ wO : World, wO = wr := ⟨_, rfl⟩;have hsO := hs;have hbO := hb;have hzO := hz;clear hs hb hz;go_upto_region 15 with fail;clear m1 m2 b0
        go_loopw [9, 10] (fun v9 v10 wr => ∃ (j : Nat) (go : Bool), j ≤ m ∧ v10 = .int .i64 (j : Nat) ∧ v9 = .bool go ∧ Hid (MkB w wr N u) ∧ w.heap.size + 1 ≤ wr.heap.size ∧ Hid (Below w.heap.size w wr)) (fun _ v _ => m - (intOf v).toNat)
        case atStart => exact ⟨0, false, Nat.zero_le _, rfl, rfl, hsO.out, hzO, hbO.out⟩
        case round =>
         clear hsO hbO;obtain ⟨j, go, hj, rfl, rfl, hs, hz, hb⟩ := hrel;have b3 := (hAll.out wr hb.out).2.1.c3
         by_cases hjlt : j < m
         ·have j0 : (0 : Int) ≤ (j : Int) := by omega
          have j1 : (j : Int) < (m : Int) := by omega
          obtain ⟨hSy, -, -⟩ := hAll.out wr hb.out;obtain ⟨gB, oB, f, l, t, rfl, -, -, hgB, hx, x0, x1, x2, -⟩ := SlE.get hSy.se hjlt;have hin := hthr.out _ (List.mem_of_getElem? hx)
          (try dsimp only at hin)
          obtain ⟨⟨hf0, hf1⟩, ⟨hl0, hl1⟩, ht0, ht1⟩ := hin;obtain ⟨f, rfl⟩ : ∃ k : Nat, f = (k : Int) := ⟨f.toNat, by omega⟩;obtain ⟨t, rfl⟩ : ∃ k : Nat, t = (k : Int) := ⟨t.toNat, by omega⟩;have hfN : f < N := by omega
          have htN : t < N := by omega
          obtain ⟨wE, hwE⟩ : ∃ wE, wE = wr.alloc (.cells #[.int .i64 (f : Int), .int .i64 l, .int .i64 (t : Int)] 84) := ⟨_, rfl⟩;obtain ⟨bE, hbE0⟩ : ∃ bE, bE = wr.heap.size := ⟨_, rfl⟩;have hbE : Below wr.heap.size wr wE := by rw [hwE]; exact bR.alloc zR _
          have kE : wE.heap[bE]? = some (.cells #[.int .i64 (f : Int), .int .i64 l, .int .i64 (t : Int)] 84 (0, 0)) := by rw [hwE, hbE0]; exact heap_alloc_new wr _
          have z0 : wE.cell? ⟨bE, 0, none⟩ = some (.int .i64 (f : Int)) := cR 0 kE;have z1 : wE.cell? ⟨bE, 1, none⟩ = some (.int .i64 l) := cR 1 kE;have z2 : wE.cell? ⟨bE, 2, none⟩ = some (.int .i64 (t : Int)) := cR 2 kE;have hbW := hide (hb.out.trans (hbE.mono hb.out.size));have hPE := (hAll.out wE hbW.out).2.2;have qI := hide (l15InertP_calls bE N P cP p f t l wE _ _ z0 z1 z2 hPE hfN htN);have f0' : (0 : Int) ≤ (f : Int) := by omega
          have f1' : (f : Int) < (N : Int) := by omega
          have t0' : (0 : Int) ≤ (t : Int) := by omega
          have t1' : (t : Int) < (N : Int) := by omega
          generalize hig : inG p ((f : Int), l, (t : Int)) = ig at qI;replace hig := hide hig;replace kE := hide kE;replace hx := hide hx;have hbEh := hide hbE;have hzr := hb.out.size;have hsE := hide (hs.out.below hz hbE);have hzE : w.heap.size + 1 ≤ wE.heap.size := Nat.le_trans hz hbE.size;clear hSy hbE hs;go_upto_region 18 with fail;clear b3 x0 x1 x2;rw [← show wE = _ from hwE, ← hbE0];replace hwE := hide hwE;replace hbE0 := hide hbE0
          cases go with
          | true =>
           clear qI;go_wp2_with fail;go_roundw
           case rel => exact ⟨j + 1, true, by omega, by go_num, rfl, hsE.out, hzE, hbW.out⟩
           case measure => simp [intOf]; omega
          | false =>
           by_cases hfk : f = k
           ·subst hfk
            have g1 : ((f : Int) == (f : Int)) = true := by simp
            go_wp2_with fail;refine qI.out.mono ?_
            rintro e w4 ⟨rfl, hb4⟩;have hs4 := hide (hsE.out.below hzE hb4);have hz4 : w.heap.size + 1 ≤ w4.heap.size := Nat.le_trans hzE hb4.size;have hb4W := hide (hbW.out.trans (hb4.mono hbW.out.size));obtain ⟨n1, n2⟩ := hs4.out.at_ htN;have z24 := (hb4.cell (p := ⟨bE, 2, none⟩) (Array.getElem?_eq_some_iff.1 kE.out).1).trans z2;clear qI hb4 z0 z1 z2
            cases ig with
            | false =>
             go_wp2_with fail;go_roundw
             case rel => exact ⟨j + 1, false, by omega, by go_num, rfl, hs4.out, hz4, hb4W.out⟩
             case measure => simp [intOf]; omega
            | true =>
             go_wp2_with fail;go_roundw
             case rel => exact ⟨j + 1, inS u t, by omega, by go_num, rfl, hs4.out, hz4, hb4W.out⟩
             case measure => simp [intOf]; omega
           ·have g1 : ((f : Int) == (k : Int)) = false := beq_eq_false_iff_ne.2 (by omega)
            clear qI;go_wp2_with fail;go_roundw
            case rel => exact ⟨j + 1, false, by omega, by go_num, rfl, hsE.out, hzE, hbW.out⟩
            case measure => simp [intOf]; omega
         ·obtain rfl : j = m := by omega
          have i1 : ¬ (j : Int) < (j : Int) := by omega
          obtain ⟨m1, m2⟩ := hs.out.at_ hlt
          cases go with
          | true =>
           go_wp2_with fail;go_roundw
           case rel => exact ⟨k + 1, mo, u, by omega, by go_num, rfl, hs.out, hz, hb.out, hG.out⟩
           case measure => simp [intOf]; omega
          | false =>
           have hs5 := hide (hs.out.put hlt false);have hb5 := hide (hb.out.setCell (p := ⟨w.heap.size, k, none⟩) zR (.bool false));have hG5 : Hid (numBR (u.set k false) + (if true = true then 1 else 0) ≤ G2) := by
            have h1 := numBR_off (s := u) (v := k) (by rw [hs.out.2]; exact hlt) hu.out;have h2 := hG.out
            show _ ≤ _
            rw [if_pos rfl, h1]
            split at h2 <;> omega
           go_wp2_with fail;go_roundw
           case rel => exact ⟨k + 1, true, u.set k false, by omega, by go_num, rfl, hs5.out, by rw [World.size_setCell]; exact hz, hb5.out, hG5.out⟩
           case measure => simp [intOf]; omega
       ·have hu2 : inS u k = false := Bool.eq_false_iff.2 hu
        rw [hu2] at m1;replace hu := hide hu;replace hu2 := hide hu2;go_wp2_with fail;go_roundw
        case rel => exact ⟨k + 1, mo, u, by omega, by go_num, rfl, hs.out, hz, hb.out, hG.out⟩
        case measure => simp [intOf]; omega
      ·have k1 : ¬ (k : Int) < (N : Int) := by omega
       go_wp2_with fail
       go_roundg G2
       case rel => exact ⟨u, mo, rfl, hs.out, hz, hb.out, hG.out⟩
       case measure => exact Nat.lt_succ_self _
theorem l15True_calls (A : Option Addr) (n c : Nat) (l : List Bool) (w : World) (lo hi : Nat) (h : SlB w lo hi A n l) (hhi : hi ≤ w.heap.size) (hn : n ≤ 1000) :
  Calls Tryz.prog 247 #[.slice A n c] w fun e w' => ∃ A' n' c' l', e = .returned (.slice A' n' c') ∧ Own 1 iv w' w.heap.size 2 A' n' c' l' ∧ n' ≤ n ∧ (∀ x, x ∈ l' → 0 ≤ x ∧ x < (n : Int)) ∧ Below w.heap.size w w' := by
 have hE := hide elem_int64;have hO0 := hide (Own.made (α := Int) (size := 1) (f := iv) w 2 (Nat.le_refl w.heap.size));have hb0 := hide ((Below.refl w.heap.size w).alloc zR (.cells #[] 2));have hh := hide (fun (wx : World) (hx : Below w.heap.size w wx) => (show SlB wx lo hi A n l from h.below hx (.inl hhi)));clear h;go_enter Tryz.func247, Tryz.ntmps247;go_wp2_with fail
 go_loopw [3, 4] (fun v3 v4 wr => ∃ (k m cc : Nat) (E : Option Addr) (l1 : List Int), k ≤ n ∧ v4 = .int .i64 (k : Nat) ∧ v3 = .slice E m cc ∧ m ≤ k ∧ Hid (Own 1 iv wr w.heap.size 2 E m cc l1) ∧ Hid (∀ x, x ∈ l1 → 0 ≤ x ∧ x < (n : Int)) ∧ Hid (Below w.heap.size w wr)) (fun _ v _ => n - (intOf v).toNat)
 case atStart => exact ⟨0, 0, _, _, [], Nat.zero_le _, rfl, rfl, zR, hO0.out, (fun x hx => absurd hx List.not_mem_nil), hb0.out⟩
 case round =>
  clear hO0 hb0;obtain ⟨k, m, cc, E, l1, hk, rfl, rfl, hm, hO, hl1, hb⟩ := hrel
  by_cases hlt : k < n
  ·have k0 : (0 : Int) ≤ (k : Int) := by omega
   have k1 : (k : Int) < (n : Int) := by omega
   obtain ⟨gb, ob, rfl, -, -, -, -, c0, -⟩ := (hh.out wr hb.out).get hlt
   cases e : inS l k with
   | false =>
    rw [e] at c0;clear e;go_wp2_with fail;go_roundw
    case rel => exact ⟨k + 1, m, cc, E, l1, by omega, by go_num, rfl, by omega, hO.out, hl1.out, hb.out⟩
    case measure => simp [intOf]; omega
   | true =>
    rw [e] at c0;clear e;have hza : w.heap.size ≤ (wr.alloc (.cells #[.int .i64 (k : Int)] 2)).heap.size := by rw [World.size_alloc]; have := hb.out.size; omega
    have hOa := hide (hO.out.alloc (.cells #[.int .i64 (k : Int)] 2));have hbA := hide (hb.out.alloc hb.out.size (.cells #[.int .i64 (k : Int)] 2));have hl2 : Hid (∀ x, x ∈ l1 ++ [(k : Int)] → 0 ≤ x ∧ x < (n : Int)) := fun x hx => by
     rcases List.mem_append.1 hx with hx | hx
     ·exact hl1.out x hx
     ·rw [List.mem_singleton.1 hx]; omega
    clear hO;go_wp2_with (first | (at_builtin; (with_reducible refine wpList_app rfl (.tmp 16) (.tmp 18) rfl hE.out flat_iv rfl hOa.out rfl (Sl.lit1' wr 2 (k : Int) _ rfl 1 _ ?d0) ?d1 hza ?_); rotate_right; intro A6 c6 w6 hown6 hgr6 hb6 hat6))
    case d0 => rfl
    case d1 => omega
    have hb7 := hide (hbA.out.trans (hb6.mono zR));replace hown6 := hide hown6;clear hgr6 hb6 hat6;go_wp2_with fail;go_roundw
    case rel => exact ⟨k + 1, m + 1, c6, A6, _, by omega, by go_num, rfl, by omega, hown6.out, hl2.out, hb7.out⟩
    case measure => simp [intOf]; omega
  ·obtain rfl : k = n := by omega
   have k1 : ¬ (k : Int) < (k : Int) := by omega
   go_wp2_with fail;go_ret
   exact ⟨E, m, cc, rfl, l1, hO.out, hm, hl1.out, hb.out⟩
theorem l15QuotientP_calls {w : World} {N ini : Nat} {A : Option Addr} {n : Nat} {B : Option Addr} {m : Nat} {ls : List ByteArray} {es : List Ed} (h : SysA w N ini A n B m ls es) (c d bx : Nat) (hbx : LtsBox w bx (N : Int) (ini : Int) A n c B m d) (P : Option Addr) (cP : Nat) (p : List Int) (hP : SlI w 0 w.heap.size P N p) (hp : ∀ x, x ∈ p → 0 ≤ x ∧ x < (N : Int)) (hnam : NamD ls) (hn8 : n ≤ 8) (hm8 : m ≤ 200) (dv : Bool) :
  Calls Tryz.prog 172 #[.pointer (some ⟨bx, 0, none⟩), .slice P N cP, .bool dv] w (DrawnT 9 (m + N) N w) := by
 have hSelf := h;have hbxS := hbx;have hPS := hP;have hEe := hide elem_edge;have hmn := h.many;obtain ⟨⟨hN1, hN2⟩, hini⟩ := h.bounds;have hthr := hide h.three;have hpR := hide hp;have hb0 := (Below.refl w.heap.size w).alloc zR (.cells #[.int .i64 0, .int .i64 0, .slice none 0 0, .slice none 0 0] 27);have hr0 : LtsBox (w.alloc (.cells #[.int .i64 0, .int .i64 0, .slice none 0 0, .slice none 0 0] 27)) w.heap.size 0 0 none 0 0 none 0 0 := heap_alloc_new w _;obtain ⟨w1, hw1⟩ : ∃ w1, w1 = w.alloc (.cells #[.int .i64 0, .int .i64 0, .slice none 0 0, .slice none 0 0] 27) := ⟨_, rfl⟩;rw [← hw1] at hb0 hr0;have hz1 : w1.heap.size = w.heap.size + 1 := by rw [hw1, World.size_alloc]
 have hb1 := hide hb0;have hr1 := hide hr0;have hAll : ∀ wx, Below w.heap.size w wx → SysA wx N ini A n B m ls es ∧ LtsBox wx bx (N : Int) (ini : Int) A n c B m d ∧ SlI wx 0 w.heap.size P N p := fun wx hx => ⟨h.below hx zR, hbx.below hx hbx.lt, hP.below hx (.inl zR)⟩
 replace hAll := hide hAll;have hnamh := hide hnam;have hBle := blkC_le (p := p) (K := N) (fun x hx => (hpR.out x hx).2);have hO0 : Hid (Own 3 ev (w1.alloc (.cells #[] 84)) w1.heap.size 84 (some ⟨w1.heap.size, 0, none⟩) 0 0 ([] : List Ed)) := Own.made (α := Ed) (size := 3) (f := ev) w1 84 zR;have hbO0 := hide ((Below.refl w1.heap.size w1).alloc zR (.cells #[] 84));obtain ⟨hz1a, hz1b⟩ : w1.heap.size ≤ w.heap.size + 1 ∧ w.heap.size + 1 ≤ w1.heap.size := ⟨by omega, by omega⟩;clear h hbx hP hb0 hr0 hz1;have qD := hide (fun (wx : World) (hx : Below w.heap.size w wx) => l15Diverge_calls (hAll.out wx hx).1 c d bx (hAll.out wx hx).2.1 P cP p ((hAll.out wx hx).2.2.more (Nat.zero_le _) hx.size));clear hSelf hbxS hPS;go_enter Tryz.func172, Tryz.ntmps172;go_upto_region 1 with fail;rw [← hw1];replace hw1 := hide hw1;go_wp2_with fail
 go_loopw [7, 8] (fun v7 v8 wr => ∃ (k KK cc : Nat) (E : Option Addr) (es1 : List Ed), k ≤ m ∧ v8 = .int .i64 (k : Nat) ∧ v7 = .slice E KK cc ∧ KK ≤ k ∧ Hid (Own 3 ev wr w1.heap.size 84 E KK cc es1) ∧ Hid (EdD (blkC p) n es1) ∧ Hid (Below w1.heap.size w1 wr)) (fun _ v _ => m - (intOf v).toNat)
 case atStart => exact ⟨0, 0, _, _, [], Nat.zero_le _, rfl, rfl, Nat.zero_le _, hO0.out, EdD.start _ _, hbO0.out⟩
 case round =>
  clear hO0 hbO0;obtain ⟨k, KK, cc, E, es1, hk, rfl, rfl, hKK, hO, hEd, hbr⟩ := hrel;obtain ⟨hSy, hBx, hPw0⟩ := hAll.out wr (hb1.out.trans (hbr.out.mono hb1.out.size));have b3 := hBx.c3
  by_cases hlt : k < m
  ·clear hPw0 hBx
   have k0 : (0 : Int) ≤ (k : Int) := by omega
   have k1 : (k : Int) < (m : Int) := by omega
   obtain ⟨gB, oB, f, l, t, rfl, -, -, hgB, hx, x0, x1, x2, -⟩ := SlE.get hSy.se hlt;have hin := hthr.out _ (List.mem_of_getElem? hx)
   (try dsimp only at hin)
   obtain ⟨⟨hf0, hf1⟩, ⟨hl0, hl1⟩, ht0, ht1⟩ := hin;obtain ⟨f, rfl⟩ : ∃ k : Nat, f = (k : Int) := ⟨f.toNat, by omega⟩;obtain ⟨t, rfl⟩ : ∃ k : Nat, t = (k : Int) := ⟨t.toNat, by omega⟩;have hfN : f < N := by omega
   have htN : t < N := by omega
   obtain ⟨wE, hwE⟩ : ∃ wE, wE = wr.alloc (.cells #[.int .i64 (f : Int), .int .i64 l, .int .i64 (t : Int)] 84) := ⟨_, rfl⟩;obtain ⟨bE, hbE0⟩ : ∃ bE, bE = wr.heap.size := ⟨_, rfl⟩;have hbE : Below wr.heap.size wr wE := by rw [hwE]; exact bR.alloc zR _
   have kE : wE.heap[bE]? = some (.cells #[.int .i64 (f : Int), .int .i64 l, .int .i64 (t : Int)] 84 (0, 0)) := by rw [hwE, hbE0]; exact heap_alloc_new wr _
   have hbW := hide (hbr.out.trans (hbE.mono hbr.out.size));have hbW0 := hide (hb1.out.trans (hbW.out.mono hb1.out.size));have hPE := (hAll.out wE hbW0.out).2.2;obtain ⟨gP, oP, pf, e1, -, hgP9, hgP, hpf, cf, -⟩ := SlI.get hPE hfN;subst e1;obtain ⟨gP2, oP2, pt, e2, -, -, -, hpt, ct, -⟩ := SlI.get hPE htN;cases e2;have hpfR := hpR.out _ (List.mem_of_getElem? hpf);have hptR := hpR.out _ (List.mem_of_getElem? hpt);have hpfB := blkC_lt (fun x hx => (hpR.out x hx).1) _ (List.mem_of_getElem? hpf);have hptB := blkC_lt (fun x hx => (hpR.out x hx).1) _ (List.mem_of_getElem? hpt);have f0' : (0 : Int) ≤ (f : Int) := by omega
   have f1' : (f : Int) < (N : Int) := by omega
   have t0' : (0 : Int) ≤ (t : Int) := by omega
   have t1' : (t : Int) < (N : Int) := by omega
   have hSS : Hid (∀ wx : World, wx.heap[bE]? = some (.cells #[.int .i64 (f : Int), .int .i64 l, .int .i64 (t : Int)] 84 (0, 0)) → Below w.heap.size w wx → wx.cell? ⟨bE, 0, none⟩ = some (.int .i64 (f : Int)) ∧ wx.cell? ⟨bE, 1, none⟩ = some (.int .i64 l) ∧ wx.cell? ⟨bE, 2, none⟩ = some (.int .i64 (t : Int)) ∧ wx.cell? ⟨gP, oP + f, none⟩ = some (.int .i64 pf) ∧ wx.cell? ⟨gP, oP + t, none⟩ = some (.int .i64 pt)) := fun wx hk hx =>
    ⟨cR 0 hk, cR 1 hk, cR 2 hk, ((hx.cell (p := ⟨gP, oP + f, none⟩) hgP9).trans ((hbW0.out.cell (p := ⟨gP, oP + f, none⟩) hgP9).symm)).trans cf, ((hx.cell (p := ⟨gP, oP + t, none⟩) hgP9).trans ((hbW0.out.cell (p := ⟨gP, oP + t, none⟩) hgP9).symm)).trans ct⟩
   have hOE := hO.out.below hbE zR;have hzr := hbr.out.size;have hnr := hide (fun (b : Nat) (hq : bE ≤ b) => (show some b ≠ (Value.slice E KK cc).ownBlock from fun e => by have := (hO.out.lt b e.symm).2; omega));have hbEh := hide hbE;have hzE : bE < wE.heap.size := (Array.getElem?_eq_some_iff.1 kE).1;replace kE := hide kE;replace hpf := hide hpf;replace hpt := hide hpt;replace hx := hide hx;clear hPE hbE;have qI := hide (fun (wx : World) (hk9 : wx.heap[bE]? = some (.cells #[.int .i64 (f : Int), .int .i64 l, .int .i64 (t : Int)] 84 (0, 0))) (hx9 : Below w.heap.size w wx) => l15InertP_calls bE N (some ⟨gP, oP, none⟩) cP p f t l wx 0 w.heap.size (cR 0 hk9) (cR 1 hk9) (cR 2 hk9) (hAll.out wx hx9).2.2 hfN htN);generalize inG p ((f : Int), l, (t : Int)) = ig at qI;have qIE := hide (qI.out wE kE.out hbW0.out);clear qI;go_upto_region 6 with fail;rw [← hwE, ← hbE0];clear x0 x1 x2 b3 hSy;replace hwE := hide hwE;replace hbE0 := hide hbE0
   cases ig with
   | true =>
    clear cf ct;go_wp2_with (first | (go_at_call 246; (with_reducible refine qIE.out.mono ?_); rintro e wV ⟨rfl, hbV9⟩; have hOV := hide (hOE.below hbV9 zR); have hbrV := hide (hbW.out.trans (hbV9.mono hbW.out.size)); clear hbV9));go_roundw
    case rel => exact ⟨k + 1, KK, cc, E, es1, by omega, by go_num, rfl, by omega, hOV.out, hEd.out, hbrV.out⟩
    case measure => simp [intOf]; omega
   | false =>
    go_upto_region 7 with (first | (go_at_call 246; (with_reducible refine qIE.out.mono ?_); rintro e wV ⟨rfl, hbV9⟩));have hOV := hOE.below hbV9 zR;have hbV := hide (hbW.out.trans (hbV9.mono hbW.out.size));have kV : Hid (wV.heap[bE]? = some (.cells #[.int .i64 (f : Int), .int .i64 l, .int .i64 (t : Int)] 84 (0, 0))) := (hbV9.block bE hzE).trans kE.out;obtain ⟨wD, hwD⟩ : ∃ wD, wD = wV.drew := ⟨_, rfl⟩;have hbD : Below w1.heap.size w1 wD := by rw [hwD]; exact hbV.out.drew
    have hOD : Own 3 ev wD w1.heap.size 84 E KK cc es1 := by rw [hwD]; exact hOV.keep fun _ _ => rfl
    have hOa := hide (hOD.alloc (.cells #[.int .i64 pf, .int .i64 l, .int .i64 pt] 84));have hlit := hide (Sl.lit1' (f := ev) wD 84 (pf, (l : Int), pt) #[.int .i64 pf, .int .i64 l, .int .i64 pt] rfl 3 _ rfl);have hbA := hide (hbD.alloc hbD.size (.cells #[.int .i64 pf, .int .i64 l, .int .i64 pt] 84));have hrow := hide (fun q (e : (Value.slice E KK cc).ownBlock = some q) => (hOD.lt q e).1);have hza : w1.heap.size ≤ (wD.alloc (.cells #[.int .i64 pf, .int .i64 l, .int .i64 pt] 84)).heap.size := hbA.out.size;have hsza : (KK + 1) * 24 ≤ 140737488355328 := by omega
    have hEd2 := hide (hEd.out.app (f := pf) (l := (l : Int)) (t := pt) (by omega) (by omega) (by omega));replace hbD := hide hbD;replace hwD := hide hwD;have kA : Hid ((wD.alloc (.cells #[.int .i64 pf, .int .i64 l, .int .i64 pt] 84)).heap[bE]? = some (.cells #[.int .i64 (f : Int), .int .i64 l, .int .i64 (t : Int)] 84 (0, 0))) := (Below.heap_alloc _ _ _ (by rw [hwD.out]; exact (Array.getElem?_eq_some_iff.1 kV.out).1)).trans (by rw [hwD.out]; exact kV.out);have kD : Hid (wD.heap[bE]? = some (.cells #[.int .i64 (f : Int), .int .i64 l, .int .i64 (t : Int)] 84 (0, 0))) := by show _ = _; rw [hwD.out]; exact kV.out
    have hbD0 := hide (hb1.out.trans (hbD.out.mono hb1.out.size));have hbA0 := hide (hb1.out.trans (hbA.out.mono hb1.out.size));clear cf ct hOE hOV hOD hbV9;refine lateT_begin (S := fun w' => w'.cell? ⟨bE, 0, none⟩ = some (.int .i64 (f : Int)) ∧ w'.cell? ⟨bE, 1, none⟩ = some (.int .i64 l) ∧ w'.cell? ⟨bE, 2, none⟩ = some (.int .i64 (t : Int)) ∧ w'.cell? ⟨gP, oP + f, none⟩ = some (.int .i64 pf) ∧ w'.cell? ⟨gP, oP + t, none⟩ = some (.int .i64 pt)) (st := 16) (by kernel_rfl) ?_;rw [← show wD = _ from hwD.out];have hS0 : (fun w' : World => w'.cell? ⟨bE, 0, none⟩ = some (.int .i64 (f : Int)) ∧ w'.cell? ⟨bE, 1, none⟩ = some (.int .i64 l) ∧ w'.cell? ⟨bE, 2, none⟩ = some (.int .i64 (t : Int)) ∧ w'.cell? ⟨gP, oP + f, none⟩ = some (.int .i64 pf) ∧ w'.cell? ⟨gP, oP + t, none⟩ = some (.int .i64 pt)) wD := hSS.out wD kD.out hbD0.out;refine tkB 0 [16] hS0 ?_;refine tkB 1 [16] hS0 ?_;refine tkB 2 [16] hS0 ?_;refine tkB 3 [16] hS0 ?_;refine tkB 4 [16] hS0 ?_;refine tkB 5 [16] hS0 ?_;refine tkB 6 [16] hS0 ?_;refine tkB 7 [16] hS0 ?_;refine tkB 8 [16] hS0 ?_;refine tkB 9 [16] hS0 ?_;refine tkB 10 [16] hS0 ?_;refine tkB 11 [16] hS0 ?_;refine tkB 12 [16] hS0 ?_;refine tkB 13 [16] hS0 ?_;refine lS 14 fun K hK => ?_
    go_simp;refine kP hK (fun _ => hSS.out _ kA.out hbA0.out) ?_
    clear hK K;refine lS 15 fun K hK => ?_
    refine step_appL (m := 1) (d := 1) (by rfl) (.tmp 32) (.tmp 46) (by rfl) hEe.out flat_ev (by go_simp) hOa.out (by go_simp) hlit.out hsza hza ?_;intro A6 c6 w7 hown7 hgr7 hb7 hat7;have k7 := hide ((hgr7.block bE (Array.getElem?_eq_some_iff.1 kA.out).1 (hnr.out bE zR)).trans kA.out);have hbr7 := hide (hbA.out.grown hgr7 hbA.out.size (fun q e => hrow.out q e));have hb7h := hide (hb1.out.trans (hbr7.out.mono hb1.out.size));replace hown7 := hide hown7;clear hgr7 hb7 hat7;refine kP hK (fun _ => hSS.out w7 k7.out hb7h.out) ?_;clear hK K;refine lS 16 fun K hK => ?_
    go_simp;refine kP hK nH ?_
    clear hK K;refine lateT_done (by kernel_rfl) ?_ _;go_wp2_with fail;go_roundw
    case rel => exact ⟨k + 1, KK + 1, c6, A6, _, by omega, by go_num, rfl, by omega, hown7.out, hEd2.out, hbr7.out⟩
    case measure => simp [intOf]; omega
  ·obtain rfl : k = m := by omega
   have k1 : ¬ (k : Int) < (k : Int) := by omega
   obtain ⟨wO, rfl⟩ : ∃ wO : World, wO = wr := ⟨_, rfl⟩;clear hPw0 hSy;go_upto_if 48 with fail;clear b3 hBx
   go_cut [7] (fun v7 wx => ∃ (KK cc : Nat) (E : Option Addr) (es1 : List Ed), v7 = .slice E KK cc ∧ KK ≤ k + N ∧ Hid (Own 3 ev wx w1.heap.size 84 E KK cc es1) ∧ Hid (EdD (blkC p) n es1) ∧ Hid (Below w1.heap.size w1 wx))
   case first =>
    cases dv with
    | false =>
     go_wp2_with fail;go_meet
     exact ⟨KK, cc, E, es1, rfl, by omega, hO.out, hEd.out, hbr.out⟩
    | true =>
     have qD1 := hide (qD.out wO (hb1.out.trans (hbr.out.mono hb1.out.size)));go_wp2_with fail;refine qD1.out.mono ?_;rintro e w5 ⟨bl, rfl, hM5, hz5, hb5⟩;have qT := hide (l15True_calls _ N N bl w5 _ _ hM5.1 (by omega) (by omega));have hO5 := hide (hO.out.below hb5 zR);have hbr5 := hide (hbr.out.trans (hb5.mono hbr.out.size));clear qD1 hb5 hM5 hO hbr;go_wp2_with fail;refine qT.out.mono ?_;rintro e w6 ⟨AL, nL, cL, ll, rfl, hLs6, hnL, hLR, hb6⟩;have hO6 := hide (hO5.out.below hb6 zR);have hbr6 := hide (hbr5.out.trans (hb6.mono hbr5.out.size));have hLs := hide hLs6;replace hLR := hide hLR;clear qT hb6 hLs6 hO5 hbr5;go_wp2_with fail
     go_loopw [7, 11] (fun v7 v11 wr => ∃ (j KK cc : Nat) (E : Option Addr) (es1 : List Ed), j ≤ nL ∧ v11 = .int .i64 (j : Nat) ∧ v7 = .slice E KK cc ∧ KK ≤ k + j ∧ Hid (Own 1 iv wr w5.heap.size 2 AL nL cL ll) ∧ Hid (Own 3 ev wr w1.heap.size 84 E KK cc es1) ∧ Hid (EdD (blkC p) n es1) ∧ Hid (Below w1.heap.size w1 wr)) (fun _ v _ => nL - (intOf v).toNat)
     case atStart => exact ⟨0, KK, cc, E, es1, Nat.zero_le _, rfl, rfl, by omega, hLs.out, hO6.out, hEd.out, hbr6.out⟩
     case round =>
      clear hO6 hbr6 hEd hLs;obtain ⟨j, KK, cc, E, es1, hj, rfl, rfl, hKK, hLs, hO, hEd, hbr⟩ := hrel
      by_cases hlt : j < nL
      ·have j0 : (0 : Int) ≤ (j : Int) := by omega
       have j1 : (j : Int) < (nL : Int) := by omega
       have hb0r := hb1.out.trans (hbr.out.mono hb1.out.size);obtain ⟨gL, oL, v, e1, -, -, -, hlj, -, -⟩ := SlI.get (hLs.out.sl flat_iv) hlt;subst e1;obtain ⟨v0, v1⟩ := hLR.out _ (List.mem_of_getElem? hlj);obtain ⟨v, rfl⟩ : ∃ k : Nat, v = (k : Int) := ⟨v.toNat, by omega⟩;obtain ⟨gP, oP, pv1, e1, -, hgP9, hgP, hpv, cv, -⟩ := SlI.get (hAll.out wr hb0r).2.2 (show v < N by omega);subst e1;have hpvR := hpR.out _ (List.mem_of_getElem? hpv);have hpvB := blkC_lt (fun x hx => (hpR.out x hx).1) _ (List.mem_of_getElem? hpv);have v0' : (0 : Int) ≤ (v : Int) := by omega
       have v1' : (v : Int) < (N : Int) := by omega
       have hSS : Hid (∀ wx : World, Own 1 iv wx w5.heap.size 2 (some ⟨gL, oL, none⟩) nL cL ll → Below w.heap.size w wx → wx.cell? ⟨gL, oL + j, none⟩ = some (.int .i64 (v : Int)) ∧ wx.cell? ⟨gP, oP + v, none⟩ = some (.int .i64 pv1)) := fun wx hown hx => by
        obtain ⟨g2, o2, v2, e2, -, -, -, hv2, cv2, -⟩ := SlI.get (hown.sl flat_iv) hlt;cases e2;rw [hlj] at hv2;injection hv2 with hv2;rw [← hv2] at cv2;exact ⟨cv2, ((hx.cell (p := ⟨gP, oP + v, none⟩) hgP9).trans ((hb0r.cell (p := ⟨gP, oP + v, none⟩) hgP9).symm)).trans cv⟩
       obtain ⟨wD, hwD⟩ : ∃ wD, wD = wr.drew := ⟨_, rfl⟩;have hbD : Below w1.heap.size w1 wD := by rw [hwD]; exact hbr.out.drew
       have hOD : Own 3 ev wD w1.heap.size 84 E KK cc es1 := by rw [hwD]; exact hO.out.keep fun _ _ => rfl
       have hOa := hide (hOD.alloc (.cells #[.int .i64 pv1, .int .i64 0, .int .i64 pv1] 84));have hlit := hide (Sl.lit1' (f := ev) wD 84 (pv1, (0 : Int), pv1) #[.int .i64 pv1, .int .i64 0, .int .i64 pv1] rfl 3 _ rfl);have hbA := hide (hbD.alloc hbD.size (.cells #[.int .i64 pv1, .int .i64 0, .int .i64 pv1] 84));have hrow := hide (fun q (e : (Value.slice E KK cc).ownBlock = some q) => (hOD.lt q e).1);have hza : w1.heap.size ≤ (wD.alloc (.cells #[.int .i64 pv1, .int .i64 0, .int .i64 pv1] 84)).heap.size := hbA.out.size;have hsza : (KK + 1) * 24 ≤ 140737488355328 := by omega
       have hEd2 := hide (hEd.out.app (f := pv1) (l := (0 : Int)) (t := pv1) (by omega) (by omega) (by omega));replace hbD := hide hbD;replace hwD := hide hwD;have hbD0 := hide (hb1.out.trans (hbD.out.mono hb1.out.size));have hbA0 := hide (hb1.out.trans (hbA.out.mono hb1.out.size));have hLD : Own 1 iv wD w5.heap.size 2 (some ⟨gL, oL, none⟩) nL cL ll := by rw [hwD.out]; exact hLs.out.keep fun _ _ => rfl
       have hLA := hide (hLD.alloc (.cells #[.int .i64 pv1, .int .i64 0, .int .i64 pv1] 84));have hLDh := hide hLD;have hOa2 := hide hOa.out;replace hlj := hide hlj;replace hpv := hide hpv;clear cv hb0r hLD;go_upto_region 13 with fail;refine lateT_begin (S := fun w' => w'.cell? ⟨gL, oL + j, none⟩ = some (.int .i64 (v : Int)) ∧ w'.cell? ⟨gP, oP + v, none⟩ = some (.int .i64 pv1)) (st := 18) (by kernel_rfl) ?_;rw [← show wD = _ from hwD.out];have hS0 : (fun w' : World => w'.cell? ⟨gL, oL + j, none⟩ = some (.int .i64 (v : Int)) ∧ w'.cell? ⟨gP, oP + v, none⟩ = some (.int .i64 pv1)) wD := hSS.out wD hLDh.out hbD0.out;refine tkB 0 [18] hS0 ?_;refine tkB 1 [18] hS0 ?_;refine tkB 2 [18] hS0 ?_;refine tkB 3 [18] hS0 ?_;refine tkB 4 [18] hS0 ?_;refine tkB 5 [18] hS0 ?_;refine tkB 6 [18] hS0 ?_;refine tkB 7 [18] hS0 ?_;refine tkB 8 [18] hS0 ?_;refine tkB 9 [18] hS0 ?_;refine tkB 10 [18] hS0 ?_;refine tkB 11 [18] hS0 ?_;refine tkB 12 [18] hS0 ?_;refine tkB 13 [18] hS0 ?_;refine tkB 14 [18] hS0 ?_;refine tkB 15 [18] hS0 ?_;refine lS 16 fun K hK => ?_
       go_simp;refine kP hK (fun _ => hSS.out _ hLA.out hbA0.out) ?_
       clear hK K;refine lS 17 fun K hK => ?_
       refine step_appL (m := 1) (d := 1) (by rfl) (.tmp 59) (.tmp 75) (by rfl) hEe.out flat_ev (by go_simp) hOa.out (by go_simp) hlit.out hsza hza ?_;intro A6 c6 w7 hown7 hgr7 hb7 hat7;have hbr7 := hide (hbA.out.grown hgr7 hbA.out.size (fun q e => hrow.out q e));have hb7h := hide (hb1.out.trans (hbr7.out.mono hb1.out.size));have hL7 : Hid (Own 1 iv w7 w5.heap.size 2 (some ⟨gL, oL, none⟩) nL cL ll) := hLA.out.keep fun q hq => by
        obtain ⟨-, h2, cur, h3⟩ := hLA.out.typedK hq;exact hgr7.block q h2 (hOa2.out.otherK h3 (by decide))
       replace hown7 := hide hown7;clear hgr7 hb7 hat7;refine kP hK (fun _ => hSS.out w7 hL7.out hb7h.out) ?_;clear hK K;refine lS 18 fun K hK => ?_
       go_simp;refine kP hK nH ?_
       clear hK K;refine lateT_done (by kernel_rfl) ?_ _;go_wp2_with fail;go_roundw
       case rel => exact ⟨j + 1, KK + 1, c6, A6, _, by omega, by go_num, rfl, by omega, hL7.out, hown7.out, hEd2.out, hbr7.out⟩
       case measure => simp [intOf]; omega
      ·obtain rfl : j = nL := by omega
       have j1 : ¬ (j : Int) < (j : Int) := by omega
       go_wp2_with fail;go_meet
       exact ⟨KK, cc, E, es1, rfl, by omega, hO.out, hEd.out, hbr.out⟩
   case rest =>
    clear hO hEd hbr;obtain ⟨KK, cc, E, es1, rfl, hKK, hO, hEd, hbr⟩ := hcut;obtain ⟨wr, rfl⟩ : ∃ wr : World, wr = wc := ⟨_, rfl⟩;go_upto_region 14 with fail;have hini0 : (0 : Int) ≤ (ini : Int) := by omega
    have hini1 : (ini : Int) < (N : Int) := by omega
    have hb := hide (hb1.out.trans (hbr.out.mono hb1.out.size));have hPw := (hAll.out wr hb.out).2.2;obtain ⟨gI, oI, pi, e1, -, hgI9, hgI, hpi, ci, -⟩ := SlI.get hPw hini;subst e1;have hpm := List.mem_of_getElem? hpi;have hpiR := hpR.out _ hpm;obtain ⟨pi, rfl⟩ : ∃ k : Nat, pi = (k : Int) := ⟨pi.toNat, by omega⟩;have hpiB := blkC_lt (fun x hx => (hpR.out x hx).1) _ hpm;have hOl := hO.out.len;have hzr := hb.out.size;have hzs := hbr.out.size;have hSS : Hid (∀ wx : World, Below wr.heap.size wr wx → wx.cell? ⟨bx, 1, none⟩ = some (.int .i64 (ini : Int)) ∧ wx.cell? ⟨bx, 2, none⟩ = some (.slice A n c) ∧ wx.cell? ⟨gI, oI + ini, none⟩ = some (.int .i64 (pi : Int))) := fun wx hx => by
     have hy := hAll.out wx (hb.out.trans (hx.mono hb.out.size));exact ⟨hy.2.1.c1, hy.2.1.c2, (hx.cell (p := ⟨gI, oI + ini, none⟩) hgI).trans ci⟩
    have qB := hide (fun (wx : World) (hx : Below wr.heap.size wr wx) => l13Blocks_calls (some ⟨gI, oI, none⟩) N cP p wx 0 w.heap.size (hAll.out wx (hb.out.trans (hx.mono hb.out.size))).2.2 (by omega) (fun x hx => by have := hpR.out x hx; omega));have qM := hide (fun (wx : World) (hx : Below wr.heap.size wr wx) => l11Make_calls ((blkC p : Nat) : Int) (pi : Int) A n c ls E KK cc es1 wx ((hAll.out wx (hb.out.trans (hx.mono hb.out.size))).1.ss) (((hO.out.below hx zR).sl flat_ev).more (Nat.zero_le _) zR) (fun e he => (hEd.out e he).2.1) (by omega) (by omega));obtain ⟨wD, hwD⟩ : ∃ wD, wD = wr.drew := ⟨_, rfl⟩;have hDD : Hid (Below wr.heap.size wr wD) := by show Below _ _ _; rw [hwD]; exact bR.drew
    replace hwD := hide hwD;replace hpi := hide hpi;clear ci hpm hgI9;refine lateT_begin (S := fun w' => w'.cell? ⟨bx, 1, none⟩ = some (.int .i64 (ini : Int)) ∧ w'.cell? ⟨bx, 2, none⟩ = some (.slice A n c) ∧ w'.cell? ⟨gI, oI + ini, none⟩ = some (.int .i64 (pi : Int))) (st := 15) (by kernel_rfl) ?_;rw [← show wD = _ from hwD.out];have hS0 : (fun w' : World => w'.cell? ⟨bx, 1, none⟩ = some (.int .i64 (ini : Int)) ∧ w'.cell? ⟨bx, 2, none⟩ = some (.slice A n c) ∧ w'.cell? ⟨gI, oI + ini, none⟩ = some (.int .i64 (pi : Int))) wD := hSS.out wD hDD.out;refine tkB 0 [15] hS0 ?_;refine tkB 2 [15] hS0 ?_;refine tkB 3 [15] hS0 ?_;refine tkB 4 [15] hS0 ?_;refine tkB 5 [15] hS0 ?_;refine tkB 6 [15] hS0 ?_;refine tkB 7 [15] hS0 ?_;refine tkB 8 [15] hS0 ?_;refine tkB 9 [15] hS0 ?_;refine tkB 10 [15] hS0 ?_;refine tkB 11 [15] hS0 ?_;refine tkB 12 [15] hS0 ?_;refine tkB 13 [15] hS0 ?_;refine lS 1 fun K hK => ?_
    go_simp;go_at_call 248
    (with_reducible refine (qB.out wD hDD.out).mono ?_)
    rintro e w6 ⟨rfl, rfl⟩
    (try go_wp2_with fail)
    refine kP hK (fun _ => hSS.out _ hDD.out) ?_;clear hK K;refine lS 14 fun K hK => ?_
    go_simp;go_at_call 94
    (with_reducible refine (qM.out _ hDD.out).mono ?_)
    rintro e w7 ⟨A2, n2, c2, B2, m2, d2, es3, rfl, hA2, hB2, hM, hb7⟩;have hDD7 := hide (hDD.out.trans (hb7.mono hDD.out.size));have hb07 := hide (hb.out.trans (hDD7.out.mono hb.out.size));have h8 : LtsBox w7 w.heap.size 0 0 none 0 0 none 0 0 := hr1.out.below (hbr.out.trans (hDD7.out.mono hbr.out.size)) (by omega);have a0 := h8.c0;have z0 := h8.f0;have a1 := h8.c1;have z1 := h8.f1;have a2 := h8.c2;have z2 := h8.f2;have a3 := h8.c3;have z3 := h8.f3;replace hA2 := hide hA2;replace hB2 := hide hB2;replace hM := hide hM;have hz7 := hb7.size;have hzD := hDD.out.size;clear hb7 h8
    (try go_wp2_with fail)
    refine kP hK (fun _ => hSS.out w7 hDD7.out) ?_;clear hK K;refine lS 15 fun K hK => ?_
    go_simp;refine kP hK nH ?_
    clear hK K;refine lateT_done (by kernel_rfl) ?_ _;go_wp2_with fail
    (try simp only [Exit.inBlock, Exit.then])
    refine bodyPost_ret_by (v := .agg #[.int .i64 ((blkC p : Nat) : Int), .int .i64 (pi : Int), .slice A2 n2 c2, .slice B2 m2 d2]) ?_ rfl ?_
    focus
     rw [results_cell1 rfl];go_simp
    change DrawnT 9 (_ + N) N w _ (put4 w7 w.heap.size _ _ _ _)
    have hlA := hA2.out.len;have hlB := hB2.out.len;have hlj := joi_len ls;have hml := hM.out.2.1;have hnam2 := namD_joi hnamh.out;have hv : ltsV (((blkC p : Nat) : Int), (pi : Int), joiF ls, es3) = true := made_valid (by omega) (by omega) (namD_labs hnamh.out) (by omega) (by omega) (fun e he => ⟨(hEd.out e he).1, (hEd.out e he).2.2⟩) hM.out;exact drawnT_put hA2.out hB2.out hv (by omega) (by omega) (by omega) hnam2 (by omega) hb07.out _ _ _ _
open Go.Lib
def keepF (S : List Int) (es : List Ed) : List Ed := es.filterMap (partO S)
theorem posZ_mono {S : List Int} (hS : S.Pairwise (· < ·)) {u v : Int} (hu : 0 ≤ posZ S u) (hv : 0 ≤ posZ S v) (h : u < v) : posZ S u < posZ S v := by
 have hn : S.Nodup := hS.imp fun h => by omega
 obtain ⟨i, hi⟩ : ∃ i : Nat, posZ S u = (i : Int) := ⟨(posZ S u).toNat, by omega⟩;obtain ⟨j, hj⟩ : ∃ j : Nat, posZ S v = (j : Int) := ⟨(posZ S v).toNat, by omega⟩;obtain ⟨h1, h2⟩ := List.getElem?_eq_some_iff.1 ((posZ_at hn).1 hi);obtain ⟨h3, h4⟩ := List.getElem?_eq_some_iff.1 ((posZ_at hn).1 hj);rw [hi, hj]
 rcases Nat.lt_trichotomy i j with g | g | g
 ·omega
 ·subst g
  rw [h2] at h4;omega
 ·have := List.pairwise_iff_getElem.1 hS j i h3 h1 g
  rw [h2, h4] at this;omega
theorem partO_some {S : List Int} {e x : Ed} (h : partO S e = some x) : 0 ≤ posZ S e.1 ∧ 0 ≤ posZ S e.2.2 ∧ x = (posZ S e.1, e.2.1, posZ S e.2.2) := by
 unfold partO at h
 by_cases c : 0 ≤ posZ S e.1 ∧ 0 ≤ posZ S e.2.2
 ·rw [if_pos c] at h
  injection h with h;exact ⟨c.1, c.2, h.symm⟩
 ·rw [if_neg c] at h
  cases h
theorem keep_rise {S : List Int} (hS : S.Pairwise (· < ·)) {es : List Ed} (h : RisE es) : RisE (keepF S es) := by
 unfold RisE keepF;refine List.Pairwise.filterMap _ (fun a b hab x hx y hy => ?_) h;obtain ⟨a1, a2, rfl⟩ := partO_some hx;obtain ⟨b1, b2, rfl⟩ := partO_some hy;rw [edLess_iff] at hab ⊢;dsimp only
 rcases hab with g | ⟨g, g2⟩
 ·exact .inl (posZ_mono hS a1 b1 g)
 ·rcases g2 with g2 | ⟨g2, g3⟩
  ·exact .inr ⟨by rw [g], .inl g2⟩
  ·exact .inr ⟨by rw [g], .inr ⟨g2, posZ_mono hS a2 b2 g3⟩⟩
theorem keep_len {S : List Int} {es : List Ed} : (keepF S es).length ≤ es.length := List.length_filterMap_le _ _
theorem posZ_lt {S : List Int} {v : Int} : posZ S v < S.length ∨ S = [] := by
 unfold posZ
 by_cases h : v ∈ S
 ·rw [if_pos h]
  have := List.idxOf_lt_length_iff.2 h;omega
 ·rw [if_neg h]
  cases S with
  | nil => exact .inr rfl
  | cons a S => left; simp only [List.length_cons]; omega
theorem keep_valid {N ini : Nat} {ls : List ByteArray} {es : List Ed} {S : List Int} (h : ltsV ((N : Int), (ini : Int), ls, es) = true) (hS : S.Pairwise (· < ·)) (hl : S.length ≤ 40) (hi : (ini : Int) ∈ S) :
  ltsV ((S.length : Int), posZ S (ini : Int), ls, keepF S es) = true ∧ 0 ≤ posZ S (ini : Int) ∧ posZ S (ini : Int) < S.length := by
 have hn : S.Nodup := hS.imp fun h => by omega
 have h2 : S.idxOf (ini : Int) < S.length := List.idxOf_lt_length_iff.2 hi;have hp : posZ S (ini : Int) = ((S.idxOf (ini : Int) : Nat) : Int) := by unfold posZ; rw [if_pos hi]
 have hnm := ltsV_names h;have hk := keep_len (S := S) (es := es);have hne : S ≠ [] := fun e => by rw [e] at hi; cases hi
 refine ⟨ltsV_of (by omega) (by omega) hnm.1 (by omega) (keep_rise hS (ltsV_rise h)) fun x hx => ?_, by omega, by omega⟩;obtain ⟨e, he, hx⟩ := List.mem_filterMap.1 hx;obtain ⟨a1, a2, rfl⟩ := partO_some hx;have h4 := ((ltsV_edge h).1 _ he).2.1;have h5 := (posZ_lt (S := S) (v := e.1)).resolve_right hne;have h6 := (posZ_lt (S := S) (v := e.2.2)).resolve_right hne;exact ⟨⟨a1, h5⟩, h4, a2, h6⟩
theorem reach_up {N : Nat} {es : List Ed} {ini : Int} : (reachF N es ini).Pairwise (· < ·) := by
 unfold reachF;rw [List.pairwise_map];exact (List.Pairwise.filter _ List.pairwise_lt_range).imp fun h => Int.ofNat_lt.2 h
end Go.Proofs.YtnhomkmfbngmgaaGreatDoor
namespace Go.Proofs.YtnhomkmfbngmgaaGreatDoor
open Go.ChangeShapes Go.WideShapes Go.ChangeAt Go.RowKit
theorem l11Place_calls (v : Int) (A : Option Addr) (n c : Nat) (l : List Int) (w : World) (lo hi : Nat) (h : SlI w lo hi A n l) (hn : n ≤ 1048576) :
  Calls Tryz.prog 87 #[.slice A n c, .int .i64 v] w fun e w' => ∃ i : Int, e = .returned (.int .i64 i) ∧ FstI l v i ∧ w = w' := by
 have hlen := hide h.len;go_enter Tryz.func87, Tryz.ntmps87;go_wp2_with fail
 go_loop [5] (fun i => ∃ k : Nat, k ≤ n ∧ i = .int .i64 k ∧ Hid (∀ x, x ∈ l.take k → x ≠ v)) (fun i => n - (intOf i).toNat)
 case atStart => exact ⟨0, Nat.zero_le _, rfl, fun x hx => by simp at hx⟩
 case round =>
  obtain ⟨k, hk, rfl, ha⟩ := hrel
  by_cases hlt : k < n
  ·obtain ⟨b, off, x, rfl, g1, g2, g3, hx, c0, -⟩ := SlI.get h hlt
   clear h;have k0 : (0 : Int) ≤ (k : Int) := by omega
   have k1 : (k : Int) < (n : Int) := by omega
   by_cases hq : x = v
   ·subst hq
    have hy : Hid (FstI l x (k : Int)) := .inr ⟨k, rfl, by rw [hlen.out]; exact hlt, hx⟩;have g9 : (x == x) = true := by simp
    clear hx;go_wp2_with fail;go_ret;exact ⟨_, rfl, hy.out, rfl⟩
   ·have hy : Hid (∀ x, x ∈ l.take (k + 1) → x ≠ v) := fun y hy => by
     rw [List.take_add_one, hx] at hy
     rcases List.mem_append.1 hy with hy | hy
     ·exact ha.out y hy
     ·have : y = x := by simpa using hy
      rw [this]; exact hq
    have g9 : (x == v) = false := beq_eq_false_iff_ne.2 hq;clear hx hq;go_wp2_with fail
    go_round
    case rel => exact ⟨k + 1, by omega, by go_num, hy⟩
    case measure => simp [intOf]; omega
  ·have hkn : k = n := by omega
   subst hkn;clear h;have hy := ha.out;rw [List.take_of_length_le (by rw [hlen.out]; exact zR)] at hy;have hf : Hid (FstI l v (-1)) := .inl ⟨rfl, fun hm => hy v hm rfl⟩;clear ha hy;go_wp2_with fail;go_ret;exact ⟨_, rfl, hf.out, rfl⟩
open Go.Lib Go.Sort
theorem keep_take {S : List Int} {es : List Ed} {k : Nat} {e : Ed} (hx : es[k]? = some e) : keepF S (es.take (k + 1)) = keepF S (es.take k) ++ (partO S e).toList := by
 unfold keepF;rw [List.take_add_one, hx, List.filterMap_append]
 congr 1
theorem l11Keep_calls {w : World} {N ini : Nat} {A : Option Addr} {n : Nat} {B : Option Addr} {m : Nat} {ls : List ByteArray} {es : List Ed} (h : SysA w N ini A n B m ls es) (c d bx : Nat) (hbx : LtsBox w bx (N : Int) (ini : Int) A n c B m d) (P : Option Addr) (q cP : Nat) (S : List Int) (hP : SlI w 0 w.heap.size P q S) (hS : S.Pairwise (· < ·)) (hq : q ≤ 40) (hi : (ini : Int) ∈ S) :
  Calls Tryz.prog 170 #[.pointer (some ⟨bx, 0, none⟩), .slice P q cP] w fun e w' => ∃ (i0 : Nat) (A2 : Option Addr) (c2 : Nat) (A3 : Option Addr) (n3 c3 : Nat), e = .returned (.agg #[.int .i64 (q : Int), .int .i64 (i0 : Int), .slice A2 n c2, .slice A3 n3 c3]) ∧ SysA w' q i0 A2 n A3 n3 ls (keepF S es) ∧ Below w.heap.size w w' := by
 have hn : S.Nodup := hS.imp fun h => by omega
 have hEe := hide elem_edge;have hEs := hide elem_str;obtain ⟨hm, hn12, hn1, hle, hll⟩ := h.many;have hlP := hP.len;obtain ⟨hvk, hk0, hk1⟩ := keep_valid h.ok hS (by omega) hi;obtain ⟨i0, hi0⟩ : ∃ i0 : Nat, posZ S (ini : Int) = (i0 : Int) := ⟨(posZ S (ini : Int)).toNat, by omega⟩;have hb1 := (Below.refl w.heap.size w).alloc zR (.cells #[.int .i64 0, .int .i64 0, .slice none 0 0, .slice none 0 0] 27);have hr1 : LtsBox (w.alloc (.cells #[.int .i64 0, .int .i64 0, .slice none 0 0, .slice none 0 0] 27)) w.heap.size 0 0 none 0 0 none 0 0 := heap_alloc_new w _;obtain ⟨w1, hw1⟩ : ∃ w1, w1 = w.alloc (.cells #[.int .i64 0, .int .i64 0, .slice none 0 0, .slice none 0 0] 27) := ⟨_, rfl⟩;rw [← hw1] at hb1 hr1;have hz1 : w1.heap.size = w.heap.size + 1 := by rw [hw1, World.size_alloc]
 have q1 := hide (l11Place_calls (ini : Int) P q cP S w1 0 w.heap.size (hP.below hb1 (.inl zR)) (by omega));have hbx1 := hbx.below hb1 hbx.lt;have b1 := hbx1.c1
 -- the world behind the first box
 obtain ⟨w2, hw2⟩ : ∃ w2, w2 = (w1.alloc (.cells #[] 84)).alloc (.cells #[.int .i64 (q : Int), .int .i64 (i0 : Int), .slice none 0 0, .slice (some ⟨w1.heap.size, 0, none⟩) 0 0] 27) := ⟨_, rfl⟩;have zE : (w1.alloc (.cells #[] 84)).heap.size = w1.heap.size + 1 := World.size_alloc _ _;have hx2 : LtsBox w2 (w1.heap.size + 1) (q : Int) (i0 : Int) none 0 0 (some ⟨w1.heap.size, 0, none⟩) 0 0 := by rw [hw2, ← zE]; exact heap_alloc_new _ _
 have hb12 : Below w1.heap.size w1 w2 := by rw [hw2]; exact (bR.alloc zR _).alloc (by omega) _
 have hb2 := hb1.trans (hb12.mono (by omega));have hr2 := hr1.below hb12 (by omega);have hE2 : Own 3 ev w2 (w.heap.size + 1) 84 (some ⟨w1.heap.size, 0, none⟩) 0 0 ([] : List Ed) := by rw [hw2]; exact (Own.made (α := Ed) (size := 3) (f := ev) w1 84 (by omega)).alloc _
 have hz2 := hb2.size;have hz2' : w.heap.size + 1 ≤ w2.heap.size := by have := hb12.size; omega
 -- behind the labels' first row
 obtain ⟨w3, hw3⟩ : ∃ w3, w3 = w2.alloc (.cells #[] 9) := ⟨_, rfl⟩;have hb23 : Below w2.heap.size w2 w3 := by rw [hw3]; exact bR.alloc zR _
 have hL3 : Own 1 strv w3 (w.heap.size + 1) 9 (some ⟨w2.heap.size, 0, none⟩) 0 0 ([] : List ByteArray) := by rw [hw3]; exact Own.made (α := ByteArray) (size := 1) (f := strv) w2 9 hz2'
 have hb3 := hb2.trans (hb23.mono hz2);have hss := h.ss.below hb3 (.inl zR);have hx3 := hx2.below hb23 hx2.lt;have hr3 := hr2.below hb23 hr2.lt;have hE3 := hE2.below hb23 zR;have hbx2 := hbx.below hb2 hbx.lt;have k3 := (hbx.below hb3 hbx.lt).c2;rw [hw3] at k3;have hz3 := hb3.size;have hz3' : w.heap.size + 1 ≤ w3.heap.size := by have := hb23.size; omega
 obtain ⟨bo, hbo⟩ : ∃ bo, bo = w1.heap.size + 1 := ⟨_, rfl⟩;rw [← hbo] at hx2 hx3;replace hbx1 := hide hbx1;replace hE2 := hide hE2;replace hvk := hide hvk;replace hx3 := hide hx3;replace hr3 := hide hr3;replace hE3 := hide hE3;replace hL3 := hide hL3;replace hss := hide hss;replace hb3 := hide hb3;have hPw := hide hP;have hseh := hide h.se;have hed := hide h.ends;replace hlP := hide hlP;replace hle := hide hle;replace hll := hide hll;have hin := hide hn;have hsz := hide h.sz;obtain ⟨hz1a, hz1b⟩ : w1.heap.size ≤ w.heap.size + 1 ∧ w.heap.size + 1 ≤ w1.heap.size := ⟨by omega, by omega⟩;clear hbx2 hr1 hr2 hb12 hb23 hP hx2 hz1 zE;go_enter Tryz.func170, Tryz.ntmps170;go_upto_region 1 with fail;rw [← hw1];replace hw1 := hide hw1;go_upto_region 2 with (first | (go_at_call 87; (with_reducible refine q1.out.mono ?_); rintro e w' ⟨i, rfl, hi2, rfl⟩; obtain rfl := (hi2.pos hin.out).trans hi0));rw [← hw2, ← hbo];clear q1 b1 hi2;replace hw2 := hide hw2;replace hbo := hide hbo;go_upto_region 3 with (first | (at_builtin; rw [← hw3]; (with_reducible refine wpList_app rfl (.tmp 18) (.tmp 22) rfl hEs.out flat_strv rfl hL3.out rfl hss.out ?d1 hz3' ?_); rotate_right; intro A6 c6 w6 hown6 hgr6 hb6 hat6; have hx6 := hx3.out.grown hgr6 (hL3.out.otherK hx3.out (by decide)); have y2 := hx6.c2; have f2 := hx6.f2))
 case d1 => omega
 have hbow : w.heap.size < bo := by have := hbo.out; omega
 have hr6 := hr3.out.grown hgr6 (hL3.out.otherK hr3.out (by decide));have hE6 : Own 3 ev w6 (w.heap.size + 1) 84 (some ⟨w1.heap.size, 0, none⟩) 0 0 ([] : List Ed) := hE3.out.keep fun q hq => by
  obtain ⟨-, h2, cur, h3⟩ := hE3.out.typedK hq;exact hgr6.block q h2 (hL3.out.otherK h3 (by decide))
 have hb06 : Below w.heap.size w w6 := hb3.out.grown hgr6 hb3.out.size (fun q e => by have := (hL3.out.lt q e).1; omega);rw [Nat.zero_add, List.nil_append] at hown6;have hK0 := hide (KeeW.label hx6 hr6 hb06 hbow hE6 hown6)
 try rw [Nat.zero_add]
 obtain ⟨wL, hwL⟩ : ∃ wL, wL = w6.setCell ⟨bo, 2, none⟩ (.slice A6 n c6) := ⟨_, rfl⟩;rw [← hwL] at hK0 ⊢;replace hwL := hide hwL;have hbxh := hide (fun (wx : World) (hx : Below w.heap.size w wx) => hbx.below hx hbx.lt);have qP := hide (fun (wx : World) (hx : Below w.heap.size w wx) (v : Int) => l11Place_calls v P q cP S wx 0 w.heap.size (hPw.out.below hx (.inl zR)) (by omega));replace hw3 := hide hw3;clear hx6 hr6 hE6 hb06 hown6 hgr6 hb6 hat6 y2 f2 k3 hx3 hr3 hE3 hL3 hss hE2 hbx1 hbx;go_wp2_with fail
 go_loopw [6] (fun v6 wr => ∃ (k KK cc : Nat) (E : Option Addr), k ≤ m ∧ v6 = .int .i64 (k : Nat) ∧ KK ≤ k ∧ Hid (KeeW w wr bo (q : Int) (i0 : Int) A6 n c6 ls E KK cc (keepF S (es.take k)))) (fun v _ => m - (intOf v).toNat)
 case atStart => exact ⟨0, 0, 0, _, Nat.zero_le _, rfl, zR, hK0.out⟩
 case round =>
  clear hK0;obtain ⟨k, KK, cc, E, hk, rfl, hKK, hK⟩ := hrel;have b3 := (hbxh.out wr hK.out.bel).c3
  by_cases hlt : k < m
  ·have k0 : (0 : Int) ≤ (k : Int) := by omega
   have k1 : (k : Int) < (m : Int) := by omega
   obtain ⟨gB, oB, f, l, t, rfl, -, -, hgB, hx, x0, x1, x2, -⟩ := SlE.get (hseh.out.below hK.out.bel (.inl zR)) hlt;have hkt := hide (keep_take (S := S) hx);obtain ⟨wE, hwE⟩ : ∃ wE, wE = wr.alloc (.cells #[.int .i64 f, .int .i64 l, .int .i64 t] 84) := ⟨_, rfl⟩;obtain ⟨bE, hbE0⟩ : ∃ bE, bE = wr.heap.size := ⟨_, rfl⟩;have hbE : Below wr.heap.size wr wE := by rw [hwE]; exact bR.alloc zR _
   have kE : wE.heap[bE]? = some (.cells #[.int .i64 f, .int .i64 l, .int .i64 t] 84 (0, 0)) := by rw [hwE, hbE0]; exact heap_alloc_new wr _
   have hzr := hK.out.bel.size;have hle2 : wr.heap.size ≤ bE := Nat.le_of_eq hbE0.symm;have q7 := hide (qP.out wE (hK.out.bel.trans (hbE.mono hzr)) f);have y0 : wE.cell? ⟨bE, 0, none⟩ = some (.int .i64 f) := cR 0 kE;have g0 : wE.frozen? ⟨bE, 0, none⟩ = false := frozen_of_row _ _ 0 _ _ kE;have kF : (wE.setCell ⟨bE, 0, none⟩ (.int .i64 (posZ S f))).heap[bE]? = some (.cells #[.int .i64 (posZ S f), .int .i64 l, .int .i64 t] 84 (0, 0)) := heap_setCell_same wE bE 0 _ _ _ kE;have hbF := hbE.setCell (p := ⟨bE, 0, none⟩) hle2 (.int .i64 (posZ S f));obtain ⟨wF, hwF⟩ : ∃ wF, wF = wE.setCell ⟨bE, 0, none⟩ (.int .i64 (posZ S f)) := ⟨_, rfl⟩;rw [← hwF] at kF hbF;have q8 := hide (qP.out wF (hK.out.bel.trans (hbF.mono hzr)) t);have y2 : wF.cell? ⟨bE, 2, none⟩ = some (.int .i64 t) := cR 2 kF;have g2 : wF.frozen? ⟨bE, 2, none⟩ = false := frozen_of_row _ _ 2 _ _ kF;have kG : (wF.setCell ⟨bE, 2, none⟩ (.int .i64 (posZ S t))).heap[bE]? = some (.cells #[.int .i64 (posZ S f), .int .i64 l, .int .i64 (posZ S t)] 84 (0, 0)) := heap_setCell_same wF bE 2 _ _ _ kF;have hbG := hbF.setCell (p := ⟨bE, 2, none⟩) hle2 (.int .i64 (posZ S t));obtain ⟨wG, hwG⟩ : ∃ wG, wG = wF.setCell ⟨bE, 2, none⟩ (.int .i64 (posZ S t)) := ⟨_, rfl⟩;rw [← hwG] at kG hbG;have hKG := hide (hK.out.below hbG);have u0 : wG.cell? ⟨bE, 0, none⟩ = some (.int .i64 (posZ S f)) := cR 0 kG;have u1 : wG.cell? ⟨bE, 1, none⟩ = some (.int .i64 l) := cR 1 kG;have u2 : wG.cell? ⟨bE, 2, none⟩ = some (.int .i64 (posZ S t)) := cR 2 kG;replace kE := hide kE;replace kF := hide kF;replace kG := hide kG;replace hbE := hide hbE;replace hbF := hide hbF;replace hbG := hide hbG;replace hx := hide hx;clear hK;go_upto_region 7 with fail;rw [← hwE, ← hbE0];replace hwE := hide hwE;replace hbE0 := hide hbE0;clear x0 x1 x2 b3;go_upto_region 8 with (first | (go_at_call 87; (with_reducible refine q7.out.mono ?_); rintro e w' ⟨i, rfl, hi2, rfl⟩; obtain rfl := hi2.pos hin.out; clear hi2));rw [← hwF];replace hwF := hide hwF;clear y0 g0 q7;go_upto_region 9 with (first | (go_at_call 87; (with_reducible refine q8.out.mono ?_); rintro e w' ⟨i, rfl, hi2, rfl⟩; obtain rfl := hi2.pos hin.out; clear hi2));rw [← hwG];replace hwG := hide hwG;clear y2 g2 q8
   by_cases hc : 0 ≤ posZ S f ∧ 0 ≤ posZ S t
   ·obtain ⟨hc0, hc1⟩ := hc
    have hpo : partO S (f, l, t) = some (posZ S f, l, posZ S t) := by unfold partO; rw [if_pos ⟨hc0, hc1⟩]
    have hkt2 : Hid (keepF S (es.take (k + 1)) = keepF S (es.take k) ++ [(posZ S f, l, posZ S t)]) := by
     show _ = _
     rw [hkt.out, hpo]
     rfl
    have hKA := hide (hKG.out.alloc (.cells #[.int .i64 (posZ S f), .int .i64 l, .int .i64 (posZ S t)] 84));have b3 := hKG.out.box.c3;have hza : w.heap.size + 1 ≤ (wG.alloc (.cells #[.int .i64 (posZ S f), .int .i64 l, .int .i64 (posZ S t)] 84)).heap.size := by have := hKA.out.bel.size; have := hKG.out.box.lt; rw [World.size_alloc]; omega
    generalize keepF S (es.take k) = L at *;go_wp2_with (first | (at_builtin; (with_reducible refine wpList_app rfl (.tmp 60) (.tmp 62) rfl hEe.out flat_ev rfl hKA.out.eds rfl (Sl.lit1' wG 84 (posZ S f, l, posZ S t) _ rfl 3 _ ?d0) ?d1 hza ?_); rotate_right; intro A7 c7 w7 hown7 hgr7 hb7 hat7; obtain ⟨hx7, hK7⟩ := hKA.out.grown hgr7 hown7; have y3 := hx7.c3; have f3 := hx7.f3))
    case d0 => rfl
    case d1 => omega
    replace hK7 := hide hK7;replace hx7 := hide hx7;clear hgr7 hb7 hat7 hown7 y3 f3;go_wp2_with fail;go_roundw
    case rel => exact ⟨k + 1, KK + 1, c7, A7, by omega, by go_num, by omega, by rw [hkt2.out]; exact hK7.out⟩
    case measure => simp [intOf]; omega
   ·have hpo : partO S (f, l, t) = none := by unfold partO; rw [if_neg hc]
    have hkt2 : Hid (keepF S (es.take (k + 1)) = keepF S (es.take k)) := by
     show _ = _
     rw [hkt.out, hpo];exact List.append_nil _
    have hr2 : ∀ {wx : World}, wx = wG → ∃ (k' KK' cc' : Nat) (E' : Option Addr), k' ≤ m ∧ Value.int .i64 ((k : Int) + 1) = .int .i64 (k' : Nat) ∧ KK' ≤ k' ∧ Hid (KeeW w wx bo (q : Int) (i0 : Int) A6 n c6 ls E' KK' cc' (keepF S (es.take k'))) := fun e => ⟨k + 1, KK, cc, E, by omega, by go_num, by omega, by rw [hkt2.out, e]; exact hKG.out⟩
    by_cases hc0 : 0 ≤ posZ S f
    ·have hc1 : ¬ 0 ≤ posZ S t := fun h => hc ⟨hc0, h⟩
     clear hc;go_wp2_with fail;go_roundw
     case rel => exact hr2 rfl
     case measure => simp [intOf]; omega
    ·clear hc
     go_wp2_with fail;go_roundw
     case rel => exact hr2 rfl
     case measure => simp [intOf]; omega
  ·obtain rfl : k = m := by omega
   have k1 : ¬ (k : Int) < (k : Int) := by omega
   have hes : es.take k = es := List.take_of_length_le (by rw [hle.out]; exact zR);rw [hes] at hK;have a0 := hK.out.res.c0;have a1 := hK.out.res.c1;have a2 := hK.out.res.c2;have a3 := hK.out.res.c3;have z0 := hK.out.res.f0;have z1 := hK.out.res.f1;have z2 := hK.out.res.f2;have z3 := hK.out.res.f3;have d0 := hK.out.box.c0;have d1 := hK.out.box.c1;have d2 := hK.out.box.c2;have d3 := hK.out.box.c3;go_wp2_with fail
   (try simp only [Exit.inBlock, Exit.then])
   refine bodyPost_ret_by (v := .agg #[.int .i64 (q : Int), .int .i64 (i0 : Int), .slice A6 n c6, .slice E KK cc]) ?_ rfl ?_
   focus
    rw [results_cell1 rfl];go_simp
   obtain ⟨h1, h2, h3⟩ := hK.out.done (.int .i64 (q : Int)) (.int .i64 (i0 : Int)) (.slice A6 n c6) (.slice E KK cc);have hv := hvk.out;rw [hi0, hlP.out] at hv;exact ⟨i0, A6, c6, E, KK, ⟨cc, rfl⟩, ⟨h1.here', h2.here', hv, hsz.out⟩, h3⟩
end Go.Proofs.YtnhomkmfbngmgaaGreatDoor
