/-
  Lemmas that the law of this claim leans on. Conditions: sizes.
-/
import Derived.Test.YtnhomkmfbngmgaaGreatDoorBaseA
import Derived.Test.YtnhomkmfbngmgaaGreatDoorBaseB
import Derived.Test.YtnhomkmfbngmgaaGreatDoorBaseC
import Derived.Test.YtnhomkmfbngmgaaGreatDoorBaseD
import Derived.Test.YtnhomkmfbngmgaaGreatDoorBaseF
import Derived.Test.YtnhomkmfbngmgaaGreatDoorBaseG
import Derived.Test.YtnhomkmfbngmgaaGreatDoorBaseJ
import Derived.Test.YtnhomkmfbngmgaaGreatDoorBaseK
import Derived.Test.YtnhomkmfbngmgaaGreatDoorBaseM
import Derived.Test.YtnhomkmfbngmgaaGreatDoorBaseO
import Derived.Deep.DeepCutAuto
import Derived.Deep.CutBlock
import Derived.Deep.RegionLaw
import Derived.Laws.EntriesVeiled
import Derived.Deep.RegionHeld3
set_option maxHeartbeats 12800000
set_option maxRecDepth 100000
set_option linter.unusedSimpArgs false
set_option linter.unusedVariables false
namespace Go.Proofs.YtnhomkmfbngmgaaGreatDoor
open Go.ChangeShapes Go.WideShapes Go.ChangeAt Go.RowKit Go.Sort
def cntE (es : List Ed) (j : Nat) : Nat := (es.filter fun e => decide (e.1 < (j : Int))).length
theorem cntE_le (es : List Ed) (j : Nat) : cntE es j ≤ es.length := List.length_filter_le _ _
theorem cntE_step (es : List Ed) (j : Nat) : cntE es (j + 1) = cntE es j + (outE es (j : Int)).length := by
 unfold cntE outE
 induction es with
 | nil => rfl
 | cons e es ih =>
  by_cases h1 : e.1 < (j : Int)
  ·rw [List.filter_cons_of_pos (by simp; omega), List.filter_cons_of_pos (by simpa using h1), List.filter_cons_of_neg (by simp; omega)]
   simp only [List.length_cons];omega
  ·by_cases h2 : e.1 = (j : Int)
   ·rw [List.filter_cons_of_pos (by simp; omega), List.filter_cons_of_neg (by simp; omega), List.filter_cons_of_pos (by simpa using h2)]
    simp only [List.length_cons];omega
   ·rw [List.filter_cons_of_neg (by simp; omega), List.filter_cons_of_neg (by simp; omega), List.filter_cons_of_neg (by simpa using h2)]
    exact ih
def bndE (es : List Ed) (N k : Nat) : Nat := cntE es (min k N) + es.length * (k - N)
theorem bndE_old {es : List Ed} {N k : Nat} (h : k < N) : bndE es N (k + 1) = bndE es N k + (outE es (k : Int)).length := by
 unfold bndE;rw [Nat.min_eq_left (show k + 1 ≤ N by omega), Nat.min_eq_left (show k ≤ N by omega), cntE_step, show k + 1 - N = 0 by omega, show k - N = 0 by omega];omega
theorem bndE_new {es : List Ed} {N k : Nat} (h : N ≤ k) (j : Int) : bndE es N k + (outE es j).length ≤ bndE es N (k + 1) := by
 have h1 : (outE es j).length ≤ es.length := List.length_filter_le _ _;unfold bndE;rw [Nat.min_eq_right (show N ≤ k + 1 by omega), Nat.min_eq_right h, show k + 1 - N = (k - N) + 1 by omega, Nat.mul_add];omega
theorem bndE_all {es : List Ed} {N k : Nat} (h : k ≤ N + 2) : bndE es N k ≤ es.length * 3 := by
 have h1 := cntE_le es (min k N);have h2 : es.length * (k - N) ≤ es.length * 2 := Nat.mul_le_mul_left _ (by omega);unfold bndE;omega
theorem outE_sub {es : List Ed} {j : Int} {e : Ed} (h : e ∈ outE es j) : e ∈ es := (List.mem_filter.1 h).1
def DrawnL (K M S Q b N0 : Nat) (w : World) (e : Ending) (w' : World) : Prop := ∃ (st ini : Nat) (A : Option Addr) (n c : Nat) (B : Option Addr) (m d : Nat) (ls : List ByteArray) (es : List Ed),
 e = .returned (.agg #[.int .i64 (st : Int), .int .i64 (ini : Int), .slice A n c, .slice B m d]) ∧ SlS w' w.heap.size w'.heap.size A n ls ∧ SlE w' w.heap.size w'.heap.size B m es ∧ ltsV ((st : Int), (ini : Int), ls, es) = true ∧ st ≤ S ∧ m ≤ M ∧ n ≤ K ∧ NamD ls ∧ SrcW w' b (N0 + Q) ∧ Only b (b + 1) w w'
theorem l13DrawLike_calls {w : World} {N ini : Nat} {A : Option Addr} {n : Nat} {B : Option Addr} {m : Nat} {ls : List ByteArray} {es : List Ed} (b N0 : Nat) (hSr : SrcW w b N0) (hN0 : N0 ≤ 500000000) (hA : SlS w (b + 1) w.heap.size A n ls) (hB : SlE w (b + 1) w.heap.size B m es) (hv : ltsV ((N : Int), (ini : Int), ls, es) = true) (hsz : totS ls ≤ 100000)
  (c d bx : Nat) (hbx : LtsBox w bx (N : Int) (ini : Int) A n c B m d) (hbb : b < bx) (hnam : NamD ls) (hn8 : n ≤ 8) (hm8 : m ≤ 64) (hN7 : N ≤ 7) :
  Calls Tryz.prog 90 #[.pointer (some ⟨b, 0, none⟩), .pointer (some ⟨bx, 0, none⟩)] w (DrawnL 9 200 9 5000 b N0 w) := by
 have hEe := hide elem_edge;have hAll : ∀ wx, Only b (b + 1) w wx → SysA wx N ini A n B m ls es ∧ LtsBox wx bx (N : Int) (ini : Int) A n c B m d := fun wx hx => ⟨⟨(hA.only hx (.inr zR)).here', (hB.only hx (.inr zR)).here', hv, hsz⟩, hbx.only hx (.inr (by omega))⟩
 have hS0 := (hAll w (Only.refl _ _ _)).1;have hmn := hS0.many;obtain ⟨⟨hN1, hN2⟩, hini⟩ := hS0.bounds;have hthr := hide hS0.three;have hbl := hSr.lt;have hnamh := hide hnam;have hon0 := (Only.refl b (b + 1) w).alloc' (.cells #[.int .i64 0, .int .i64 0, .slice none 0 0, .slice none 0 0] 27);have hr0 : LtsBox (w.alloc (.cells #[.int .i64 0, .int .i64 0, .slice none 0 0, .slice none 0 0] 27)) w.heap.size 0 0 none 0 0 none 0 0 := heap_alloc_new w _;have hSr1 := hSr.alloc (.cells #[.int .i64 0, .int .i64 0, .slice none 0 0, .slice none 0 0] 27);obtain ⟨w1, hw1⟩ : ∃ w1, w1 = w.alloc (.cells #[.int .i64 0, .int .i64 0, .slice none 0 0, .slice none 0 0] 27) := ⟨_, rfl⟩;rw [← hw1] at hon0 hr0 hSr1;have hz1 : w1.heap.size = w.heap.size + 1 := by rw [hw1, World.size_alloc]
 have q1 := hide (pick_calls b N0 (N : Int) w1 hSr1 (by omega));have c0 := (hAll w1 hon0).2.c0;have hr1w := hide hr0;have hon1 := hide hon0;replace hAll := hide hAll;obtain ⟨hz1a, hz1b⟩ : w1.heap.size ≤ w.heap.size + 1 ∧ w.heap.size + 1 ≤ w1.heap.size := ⟨by omega, by omega⟩;clear hA hB hSr hbx hS0 hr0 hon0 hSr1 hz1;go_enter Tryz.func90, Tryz.ntmps90;go_upto_region 1 with fail;rw [← hw1];replace hw1 := hide hw1;go_wp2_with fail;refine q1.out.mono ?_;rintro e w2 ⟨sh, rfl, sh0, sh1, hs2⟩;obtain ⟨sh, rfl⟩ : ∃ k : Nat, sh = (k : Int) := ⟨sh.toNat, by omega⟩;have hshN : sh < N := by omega
 have hon2 := hide (hon1.out.trans' hs2.only);have hon21 := hide hs2.only;have hsr2 := hide hs2.src;have c02 := (hAll.out w2 hon2.out).2.c0;have q2 := hide (pick_calls b (N0 + 2) 3 w2 hs2.src (by omega));clear q1 c0 hs2 sh0 sh1;go_upto_if 24 with fail
 go_cut [6] (fun v6 wx => ∃ mo : Nat, v6 = .int .i64 (mo : Int) ∧ mo ≤ 2 ∧ Hid (SrcW wx b (N0 + 4)) ∧ Hid (Only b (b + 1) w1 wx))
 case first =>
  by_cases h7 : N < 7
  ·have g7 : (N : Int) < 7 := by omega
   go_wp2_with fail;refine q2.out.mono ?_
   rintro e w3 ⟨mo, rfl, mo0, mo1, hs3⟩;obtain ⟨mo, rfl⟩ : ∃ k : Nat, mo = (k : Int) := ⟨mo.toNat, by omega⟩;have hon3 := hide (hon21.out.trans' hs3.only);have hsr3 := hide (hs3.src.more (show N0 + 2 + 2 ≤ N0 + 4 by omega));clear hs3;go_wp2_with fail;go_meet;exact ⟨mo, rfl, by omega, hsr3.out, hon3.out⟩
  ·have g7 : ¬ (N : Int) < 7 := by omega
   have hsr3 := hide (hsr2.out.more (show N0 + 2 ≤ N0 + 4 by omega));go_wp2_with fail;go_meet;exact ⟨0, rfl, by omega, hsr3.out, hon21.out⟩
 case rest =>
  clear q2 c02 hsr2;obtain ⟨mo, rfl, hmo, hsrC, honC1⟩ := hcut;have honC := hide (hon1.out.trans' honC1.out);obtain ⟨wI, rfl⟩ : ∃ wI : World, wI = wc := ⟨_, rfl⟩;have c0c := (hAll.out wI honC.out).2.c0;obtain ⟨st, hst⟩ : ∃ st : Nat, st = N + mo := ⟨_, rfl⟩;have hstI : (N : Int) + (mo : Int) = (st : Int) := by omega
  have hst9 : st ≤ 9 := by omega
  have hO0 : Hid (Own 3 ev (wI.alloc (.cells #[] 84)) wI.heap.size 84 (some ⟨wI.heap.size, 0, none⟩) 0 0 ([] : List Ed)) := Own.made (α := Ed) (size := 3) (f := ev) wI 84 zR;have hsr0 := hide (hsrC.out.alloc (.cells #[] 84));have honW := hide ((Only.refl b (b + 1) wI).alloc' (.cells #[] 84));have hblc : b < wI.heap.size := hsrC.out.lt;have hzc := honC.out.size;replace hst := hide hst;go_upto_region 6 with fail;clear c0c hstI;go_wp2_with fail;have qOut := hide (fun (wx : World) (hx : Only b (b + 1) w wx) (z : Int) => l11Out_calls bx _ _ z wx ((hAll.out wx hx).1.atK (hAll.out wx hx).2))
  go_loopw [8, 9] (fun v8 v9 wr => ∃ (k KK cc : Nat) (E : Option Addr) (es1 : List Ed), k ≤ st ∧ v9 = .int .i64 (k : Nat) ∧ v8 = .slice E KK cc ∧ KK ≤ bndE es N k ∧ Hid (Own 3 ev wr wI.heap.size 84 E KK cc es1) ∧ Hid (EdD st n es1) ∧ Hid (SrcW wr b (N0 + 10 + 200 * k)) ∧ Hid (Only b (b + 1) wI wr)) (fun _ v _ => st - (intOf v).toNat)
  case atStart => exact ⟨0, 0, _, _, [], Nat.zero_le _, rfl, rfl, Nat.zero_le _, hO0.out, EdD.start _ _, hsr0.out.more (by omega), honW.out⟩
  case round =>
   clear hO0 hsr0 honW;obtain ⟨k, KK, cc, E, es1, hk, rfl, rfl, hKK, hO, hEd, hS, honr⟩ := hrel;have hon := hide (honC.out.trans' honr.out);have hzr := honr.out.size;have hbr : b < wr.heap.size := by omega
   by_cases hlt : k < st
   ·have k1 : (k : Int) < (st : Int) := by omega
    have c0r := (hAll.out wr hon.out).2.c0;obtain ⟨wO, rfl⟩ : ∃ wO : World, wO = wr := ⟨_, rfl⟩;obtain ⟨od, hod, hodN⟩ : ∃ od : Nat, od = (if k < N then k else (k + sh) % N) ∧ od < N := ⟨_, rfl, by
     split
     ·assumption
     ·exact Nat.mod_lt _ (by omega)⟩
    have hodB : bndE es N k + (outE es (od : Int)).length ≤ bndE es N (k + 1) := by
     rw [hod]
     split
     ·rename_i hkN
      rw [bndE_old hkN];exact zR
     ·exact bndE_new (by omega) _
    have hodE := hide hod;clear hod;have q3 := hide (qOut.out wO hon.out (od : Int));go_upto_if 45 with fail
    go_cut [10] (fun v10 wx => v10 = .int .i64 (od : Nat) ∧ wx = wO)
    case first =>
     by_cases hkN : k < N
     ·have g1 : ¬ (N : Int) ≤ (k : Int) := by omega
      have e1 : od = k := by rw [hodE.out, if_pos hkN]
      go_wp2_with fail;go_meet
      exact ⟨by rw [e1], rfl⟩
     ·have g1 : (N : Int) ≤ (k : Int) := by omega
      have g2 : (N : Int) ≠ 0 := by omega
      have e1 : (od : Int) = ((k : Int) + (sh : Int)) % (N : Int) := by rw [hodE.out, if_neg hkN, Int.natCast_emod, Int.natCast_add]
      go_wp2_with fail;go_meet
      exact ⟨by rw [e1], rfl⟩
    case rest =>
     obtain ⟨rfl, hwc⟩ := hcut;obtain rfl : wO = wc := hwc.symm;go_wp2_with fail;refine q3.out.mono ?_;rintro e w5 ⟨AO, no, co, rfl, hOut, hno, hb5⟩;have hO5 := hide (hO.out.below hb5 zR);have hlO := hide hOut.len;have hon5 := hide (honr.out.belowAt hb5 hzr);have hS5 := hide (hS.out.below hb5 hbr);have hno64 : Hid ((outE es (od : Int)).length ≤ 64) := by
      have h1 : (outE es (od : Int)).length ≤ es.length := List.length_filter_le _ _
      show _ ≤ _
      omega
     have hOuth := hide hOut;have hOlt := hide (fun q (e : (Value.slice E KK cc).ownBlock = some q) => (hO.out.lt q e).2);have hz5 := hb5.size;clear q3 hb5 hOut hO hS c0r;go_wp2_with fail
     go_loopw [8, 12] (fun v8 v12 wr => ∃ (j KK2 cc2 : Nat) (E2 : Option Addr) (es2 : List Ed), j ≤ no ∧ v12 = .int .i64 (j : Nat) ∧ v8 = .slice E2 KK2 cc2 ∧ KK2 ≤ KK + j ∧ Hid (Own 3 ev wr wI.heap.size 84 E2 KK2 cc2 es2) ∧ Hid (EdD st n es2) ∧ Hid (SrcW wr b (N0 + 10 + 200 * k + 2 * j)) ∧ Hid (Only b (b + 1) wI wr) ∧ Hid (SlE wr wO.heap.size w5.heap.size AO no (outE es (od : Int))) ∧ Hid (∀ q, (Value.slice E2 KK2 cc2).ownBlock = some q → q < wO.heap.size ∨ w5.heap.size ≤ q) ∧ Hid (w5.heap.size ≤ wr.heap.size)) (fun _ v _ => no - (intOf v).toNat)
     case atStart => exact ⟨0, KK, cc, E, es1, Nat.zero_le _, rfl, rfl, zR, hO5.out, hEd.out, hS5.out.more (by omega), hon5.out, hOuth.out, (fun q e => .inl (hOlt.out q e)), zR⟩
     case round =>
      clear hO5 hS5 hon5 hOuth hEd hOlt;obtain ⟨j, KK2, cc2, E2, es2, hj, rfl, rfl, hKK2, hO, hEd, hS, honr, hOut, hsep, hz5r⟩ := hrel;have hon := hide (honC.out.trans' honr.out);have hzr := honr.out.size;have hbr' : b < wr.heap.size := by have := hS.out.lt; omega
      by_cases hlt2 : j < no
      ·have j0 : (0 : Int) ≤ (j : Int) := by omega
       have j1 : (j : Int) < (no : Int) := by omega
       obtain ⟨gO, oO, f, lb, t, rfl, -, -, hgO, hx, x0, x1, x2, -⟩ := SlE.get hOut.out hlt2;have hin := hthr.out _ (outE_sub (List.mem_of_getElem? hx))
       (try dsimp only at hin)
       obtain ⟨-, ⟨hl0, hl1⟩, ht0, ht1⟩ := hin;obtain ⟨t, rfl⟩ : ∃ k : Nat, t = (k : Int) := ⟨t.toNat, by omega⟩;have c0s := (hAll.out wr hon.out).2.c0;replace hx := hide hx;obtain ⟨wS, rfl⟩ : ∃ wS : World, wS = wr := ⟨_, rfl⟩;go_upto_region 18 with fail
       go_cut [88] (fun v88 wx => ∃ yes : Bool, v88 = .bool yes ∧ Hid (yes = true → 0 < mo) ∧ Hid (SrcW wx b (N0 + 10 + 200 * k + 2 * j + 2)) ∧ Hid (Only b (b + 1) wS wx))
       case first =>
        have honS : Only b (b + 1) wS wS := Only.refl _ _ _
        by_cases hm0 : 0 < mo
        ·have g1 : (mo : Int) > 0 := by omega
         have g1d : decide ((mo : Int) > 0) = true := decide_eq_true g1;obtain ⟨tq, htq⟩ : ∃ tq : Nat, tq = (N + sh) % N := ⟨_, rfl⟩;have hw1 : IntKind.i64.wrap ((N : Int) + (sh : Int)) = (N : Int) + (sh : Int) := IntWalk.i64_in _ (by omega);have hN0 : (N : Int) ≠ 0 := by omega
         have hN0n : ¬ N = 0 := by omega
         have hr1 : ((N : Int) + (sh : Int)) % (N : Int) = (tq : Int) := by rw [htq, Int.natCast_emod, Int.natCast_add]
         have hr2 : ((N : Int) + (sh : Int)).tmod (N : Int) = (tq : Int) := by rw [Int.tmod_eq_emod_of_nonneg (by omega)]; exact hr1
         have htN : tq < N := by rw [htq]; exact Nat.mod_lt _ (by omega)
         have hw2 : IntKind.i64.wrap (tq : Int) = (tq : Int) := IntWalk.i64_in _ (by omega);replace htq := hide htq
         by_cases ht2 : tq = t
         ·have g2 : ((tq : Int) == (t : Int)) = true := by rw [ht2]; simp
          obtain ⟨wD, hwD⟩ : ∃ wD, wD = wS.drew := ⟨_, rfl⟩;have hOS : Only b (b + 1) wS wD := by rw [hwD]; exact ⟨rfl, rfl, rfl, zR, fun _ _ _ => rfl⟩
          have hOD := hide (hon.out.trans' hOS);have hSD : SrcW wD b (N0 + 10 + 200 * k + 2 * j) := by rw [hwD]; exact hS.out.drew
          have qO := hide (one_calls b _ 2 wD hSD (by omega));have hSS := hide (fun (wx : World) (hx : Only b (b + 1) w wx) => (hAll.out wx hx).2.c0);have hOSh := hide hOS;replace hwD := hide hwD;clear c0s hOS hSD;refine lateT_begin (S := fun w' => w'.cell? ⟨bx, 0, none⟩ = some (.int .i64 (N : Int))) (st := 20) (by kernel_rfl) ?_;rw [← show wD = _ from hwD.out];have hS0 : (fun w' : World => w'.cell? ⟨bx, 0, none⟩ = some (.int .i64 (N : Int))) wD := hSS.out wD hOD.out;refine tkD 0 [1,2,17,20] hS0 ?_;refine tkD 1 [2,17,20] hS0 ?_;refine tkD 2 [17,20] hS0 ?_;refine tkD 3 [4,5,6,8,13,15,16,17,20] hS0 ?_;refine tkD 4 [5,6,8,13,15,16,17,20] hS0 ?_;refine tkD 5 [6,8,13,15,16,17,20] hS0 ?_;refine tkD 6 [8,13,15,16,17,20] hS0 ?_;refine tkD 7 [8,13,15,16,17,20] hS0 ?_;refine tkD 8 [13,15,16,17,20] hS0 ?_;refine tkD 9 [10,11,12,13,15,16,17,20] hS0 ?_;refine tkD 10 [11,12,13,15,16,17,20] hS0 ?_;refine tkD 11 [12,13,15,16,17,20] hS0 ?_;refine tkD 12 [13,15,16,17,20] hS0 ?_;refine tkD 13 [15,16,17,20] hS0 ?_;refine tkD 14 [15,16,17,20] hS0 ?_;refine tkD 15 [16,17,20] hS0 ?_;refine tkD 16 [17,20] hS0 ?_;refine tkD 17 [20] hS0 ?_;refine tkD 18 [19,20] hS0 ?_;refine lS 19 fun K hK => ?_
          go_simp;go_at_call 92
          (with_reducible refine qO.out.mono ?_)
          rintro e w6 ⟨yes, rfl, h6⟩;have h6h := hide h6;have hS6 := hSS.out w6 (hOD.out.trans' h6.only);clear h6
          (try go_wp2_with fail)
          have hS1 := hS6;refine kP hK (fun _ => hS1) ?_;clear hK K;refine lS 20 fun K hK => ?_
          go_simp;refine kP hK nH ?_
          clear hK K;refine lateT_done (by kernel_rfl) ?_ _;go_wp2_with fail;go_meet;exact ⟨yes, rfl, (fun _ => hm0), h6h.out.src, hOSh.out.trans' h6h.out.only⟩
         ·have g2 : ((tq : Int) == (t : Int)) = false := by rw [beq_eq_false_iff_ne]; omega
          go_quiet (fail);go_wp2_with fail;go_meet;exact ⟨false, rfl, (fun h => by cases h), (hS.out.more (by omega)).keep zR (fun _ _ => rfl), ⟨rfl, rfl, rfl, zR, fun _ _ _ => rfl⟩⟩
        ·have g1 : ¬ (mo : Int) > 0 := by omega
         have g1d : decide ((mo : Int) > 0) = false := decide_eq_false g1;go_quiet (fail);go_wp2_with fail;go_meet;exact ⟨false, rfl, (fun h => by cases h), (hS.out.more (by omega)).keep zR (fun _ _ => rfl), ⟨rfl, rfl, rfl, zR, fun _ _ _ => rfl⟩⟩
       case rest =>
        obtain ⟨yes, rfl, hyes, hsrC2, honC2⟩ := hcut;obtain ⟨wQ, rfl⟩ : ∃ wQ : World, wQ = wc := ⟨_, rfl⟩;have hO2 := hO.out.keep (w' := wQ) fun g e => honC2.out.block g (hO.out.lt g e).2 (by have := (hO.out.lt g e).1; omega)
        have hOut2 := hOut.out.only honC2.out (.inr (show b + 1 ≤ wO.heap.size by omega));have honQ := hide (honr.out.trans' honC2.out);have c0q := (hAll.out wQ (honC.out.trans' honQ.out)).2.c0;obtain ⟨gO2, oO2, f2, lb2, t2', e2, -, -, hgO2, hx2, y0, y1, y2, -⟩ := SlE.get hOut2 hlt2;cases e2;rw [hx.out] at hx2;injection hx2 with hx2;injection hx2 with hx2 hx3;injection hx3 with hx3 hx4;subst hx2 hx3 hx4;replace hO2 := hide hO2;replace hOut2 := hide hOut2;clear x0 x1 x2 c0s hO hS hOut honr;go_upto_if 88 with fail
        go_cut [13] (fun v13 wx => ∃ t2 : Int, v13 = .int .i64 t2 ∧ Hid (0 ≤ t2 ∧ t2 < (st : Int)) ∧ wx = wQ)
        case first =>
         cases yes with
         | false =>
          go_wp2_with fail;go_meet
          exact ⟨t, rfl, ⟨by omega, by have := hst.out; omega⟩, rfl⟩
         | true =>
          have hm1 := hyes.out rfl;go_wp2_with fail;go_meet;exact ⟨(N : Int), rfl, ⟨by omega, by have := hst.out; omega⟩, rfl⟩
        case rest =>
         obtain ⟨t2, rfl, ht2, hwc⟩ := hcut;obtain rfl : wQ = wc := hwc.symm;have hzq := honQ.out.size;have hz5q : w5.heap.size ≤ wQ.heap.size := by have h1 := hz5r.out; have h2 := honC2.out.size; omega
         have hza : wI.heap.size ≤ (wQ.alloc (.cells #[.int .i64 (k : Int), .int .i64 lb, .int .i64 t2] 84)).heap.size := by rw [World.size_alloc]; omega
         have hOa := hide (hO2.out.alloc (.cells #[.int .i64 (k : Int), .int .i64 lb, .int .i64 t2] 84));have hSa := hide (hsrC2.out.alloc (.cells #[.int .i64 (k : Int), .int .i64 lb, .int .i64 t2] 84));have hona := hide (honQ.out.alloc' (.cells #[.int .i64 (k : Int), .int .i64 lb, .int .i64 t2] 84));have hOuta := hide (hOut2.out.below ((Below.refl wQ.heap.size wQ).alloc zR (.cells #[.int .i64 (k : Int), .int .i64 lb, .int .i64 t2] 84)) (.inl hz5q));have hrow := hide (fun q (e : (Value.slice E2 KK2 cc2).ownBlock = some q) => (hOa.out.lt q e).1);have hEd2 := hide (hEd.out.app (f := (k : Int)) (l := lb) (t := t2) (by omega) (by omega) ht2.out);have hzQa : w5.heap.size ≤ (wQ.alloc (.cells #[.int .i64 (k : Int), .int .i64 lb, .int .i64 t2] 84)).heap.size := by rw [World.size_alloc]; omega
         clear hO2 hOut2;go_wp2_with (first | (at_builtin; (with_reducible refine wpList_app rfl (.tmp 93) (.tmp 102) rfl hEe.out flat_ev rfl hOa.out rfl (Sl.lit1' wQ 84 ((k : Int), lb, t2) _ rfl 3 _ ?d0) ?d1 hza ?_); rotate_right; intro A6 c6 w6 hown6 hgr6 hb6 hat6))
         case d0 => rfl
         case d1 =>
          have h1 := bndE_all (es := es) (N := N) (k := k) (by have := hst.out; omega);have h2 := hno64.out;omega
         have hS6 := hide ((hSa.out.grow hgr6 (fun q e => by have := hrow.out q e; omega)).more (show N0 + 10 + 200 * k + 2 * j + 2 ≤ N0 + 10 + 200 * k + 2 * (j + 1) by omega));have hon6 := hide (hona.out.grow hgr6 (fun q e => hrow.out q e));have hOut6 : Hid (SlE w6 wO.heap.size w5.heap.size (some ⟨gO, oO, none⟩) no (outE es (od : Int))) := Sl.keep hOuta.out hgr6.size fun q h1 h2 h3 => hgr6.block q h3 (fun e => by have := hsep.out q e.symm; omega)
         have hsep6 : Hid (∀ q, (Value.slice A6 (KK2 + 1) c6).ownBlock = some q → q < wO.heap.size ∨ w5.heap.size ≤ q) := fun q e => by
          rcases hat6 with h | h
          ·exact hsep.out q (h.symm.trans e)
          ·rw [h] at e
           injection e with e;exact .inr (by omega)
         have hz6 : Hid (w5.heap.size ≤ w6.heap.size) := by show _ ≤ _; have := hgr6.size; omega
         replace hown6 := hide hown6;clear hgr6 hb6 hat6 hOa hSa hona hOuta hsep;go_wp2_with fail;go_roundw
         case rel => exact ⟨j + 1, KK2 + 1, c6, A6, _, by omega, by go_num, rfl, by omega, hown6.out, hEd2.out, hS6.out, hon6.out, hOut6.out, hsep6.out, hz6.out⟩
         case measure => simp [intOf]; omega
      ·obtain rfl : j = no := by omega
       have j1 : ¬ (j : Int) < (j : Int) := by omega
       have hKK3 : KK2 ≤ bndE es N (k + 1) := by have := hlO.out; omega
       have hS6 := hide (hS.out.more (show N0 + 10 + 200 * k + 2 * j ≤ N0 + 10 + 200 * (k + 1) by have h1 := hno64.out; have h2 := hlO.out; omega));go_wp2_with fail;go_roundw
       case rel => exact ⟨k + 1, KK2, cc2, E2, es2, by omega, by go_num, rfl, hKK3, hO.out, hEd.out, hS6.out, honr.out⟩
       case measure => simp [intOf]; omega
   ·obtain rfl : k = st := by omega
    have k1 : ¬ (k : Int) < (k : Int) := by omega
    have hkN : N ≤ k := by have := hst.out; omega
    have hbnd := bndE_all (es := es) (N := N) (k := k) (by have := hst.out; omega);have hon1r := hide (honC1.out.trans' honr.out);have hOl := hO.out.len;have hSS : Hid (∀ wx : World, Below wr.heap.size wr wx → wx.cell? ⟨bx, 1, none⟩ = some (.int .i64 (ini : Int)) ∧ wx.cell? ⟨bx, 2, none⟩ = some (.slice A n c)) := fun wx hx => by
     have hy := (hAll.out wx (hon.out.belowAt hx hon.out.size)).2;exact ⟨hy.c1, hy.c2⟩
    have qM := hide (fun (wx : World) (hx : Below wr.heap.size wr wx) => l11Make_calls (k : Int) (ini : Int) A n c ls E KK cc es1 wx ((hAll.out wx (hon.out.belowAt hx hon.out.size)).1.ss) (((hO.out.below hx zR).sl flat_ev).more (Nat.zero_le _) zR) (fun e he => by have := (hEd.out e he).2.1; omega) (by omega) (by omega));obtain ⟨wD, hwD⟩ : ∃ wD, wD = wr.drew := ⟨_, rfl⟩;have hDD : Hid (Below wr.heap.size wr wD) := by show Below _ _ _; rw [hwD]; exact bR.drew
    replace hwD := hide hwD;go_upto_region 21 with fail;refine lateT_begin (S := fun w' => w'.cell? ⟨bx, 1, none⟩ = some (.int .i64 (ini : Int)) ∧ w'.cell? ⟨bx, 2, none⟩ = some (.slice A n c)) (st := 11) (by kernel_rfl) ?_;rw [← show wD = _ from hwD.out];have hS0 : (fun w' : World => w'.cell? ⟨bx, 1, none⟩ = some (.int .i64 (ini : Int)) ∧ w'.cell? ⟨bx, 2, none⟩ = some (.slice A n c)) wD := hSS.out wD hDD.out;refine tkB 0 [11] hS0 ?_;refine tkB 1 [11] hS0 ?_;refine tkB 2 [11] hS0 ?_;refine tkB 3 [11] hS0 ?_;refine tkB 4 [11] hS0 ?_;refine tkB 5 [11] hS0 ?_;refine tkB 6 [11] hS0 ?_;refine tkB 7 [11] hS0 ?_;refine tkB 8 [11] hS0 ?_;refine tkB 9 [11] hS0 ?_;refine lS 10 fun K hK => ?_
    go_simp;go_at_call 94
    (with_reducible refine (qM.out _ hDD.out).mono ?_)
    rintro e w7 ⟨A2, n2, c2, B2, m2, d2, es3, rfl, hA2, hB2, hM, hb7⟩;have hDD7 := hide (hDD.out.trans (hb7.mono hDD.out.size));have hon7 := hide (hon.out.belowAt hDD7.out hon.out.size);have h8 : LtsBox w7 w.heap.size 0 0 none 0 0 none 0 0 := hr1w.out.only (hon1r.out.belowAt hDD7.out hon1r.out.size) (.inr (by omega));have a0 := h8.c0;have z0 := h8.f0;have a1 := h8.c1;have z1 := h8.f1;have a2 := h8.c2;have z2 := h8.f2;have a3 := h8.c3;have z3 := h8.f3;have hS7 := hide (hS.out.below hDD7.out hbr);replace hA2 := hide hA2;replace hB2 := hide hB2;replace hM := hide hM;have hz7 := hb7.size;have hzD := hDD.out.size;clear hb7 h8
    (try go_wp2_with fail)
    refine kP hK (fun _ => hSS.out w7 hDD7.out) ?_;clear hK K;refine lS 11 fun K hK => ?_
    go_simp;refine kP hK nH ?_
    clear hK K;refine lateT_done (by kernel_rfl) ?_ _;go_wp2_with fail
    (try simp only [Exit.inBlock, Exit.then])
    refine bodyPost_ret_by (v := .agg #[.int .i64 (k : Int), .int .i64 (ini : Int), .slice A2 n2 c2, .slice B2 m2 d2]) ?_ rfl ?_
    focus
     rw [results_cell1 rfl];go_simp
    change DrawnL 9 200 9 5000 b N0 w _ (put4 w7 w.heap.size _ _ _ _)
    have hZs := put4_size w7 w.heap.size (.int .i64 (k : Int)) (.int .i64 (ini : Int)) (.slice A2 n2 c2) (.slice B2 m2 d2);have hlA := hA2.out.len;have hlB := hB2.out.len;have hlj := joi_len ls;have hml := hM.out.2.1;have hzr1 := hon1r.out.size;have hnam2 := namD_joi hnamh.out;have hv2 : ltsV ((k : Int), (ini : Int), joiF ls, es3) = true := made_valid (by omega) (by omega) (namD_labs hnamh.out) (by omega) (by omega) (fun e he => ⟨(hEd.out e he).1, (hEd.out e he).2.2⟩) hM.out;refine ⟨k, ini, A2, n2, c2, B2, m2, d2, joiF ls, es3, rfl, ?_, ?_, hv2, by omega, by omega, by omega, hnam2, ?_, ?_⟩
    ·exact (Sl.keep hA2.out (by omega) fun q h1 h2 h3 => put4_other _ _ _ _ _ _ (by omega)).more (by omega) (by omega)
    ·exact (Sl.keep hB2.out (by omega) fun q h1 h2 h3 => put4_other _ _ _ _ _ _ (by omega)).more (by omega) (by omega)
    ·exact (hS7.out.keep (by omega) fun q hq => put4_other _ _ _ _ _ _ (by omega)).more (by omega)
    ·exact put4_only hon7.out zR _ _ _ _
structure SysX (lo hi : Nat) (w : World) (g K M S : Nat) (st ini : Nat) (A : Option Addr) (n c : Nat) (B : Option Addr) (m d : Nat) (ls : List ByteArray) (es : List Ed) : Prop where
 box : LtsBox w g (st : Int) (ini : Int) A n c B m d
 ss : SlS w lo hi A n ls
 se : SlE w lo hi B m es
 ok : ltsV ((st : Int), (ini : Int), ls, es) = true
 h1 : st ≤ S
 h2 : m ≤ M
 h3 : n ≤ K
 nam : NamD ls
 top : hi ≤ w.heap.size
section
variable {lo hi g K M S : Nat} {w w' : World} {st ini : Nat} {A : Option Addr} {n c : Nat} {B : Option Addr} {m d : Nat} {ls : List ByteArray} {es : List Ed}
theorem SysX.sz (h : SysX lo hi w g K M S st ini A n c B m d ls es) (hK : K ≤ 1000) : totS ls ≤ 100000 := by
 have h4 := namD_tot h.nam;have h5 := h.ss.len;have := h.h3;omega
theorem SysX.sys (h : SysX lo hi w g K M S st ini A n c B m d ls es) (hK : K ≤ 1000) : SysA w st ini A n B m ls es := ⟨h.ss.here', h.se.here', h.ok, h.sz hK⟩
theorem SysX.below (h : SysX lo hi w g K M S st ini A n c B m d ls es) (hb : Below w.heap.size w w') : SysX lo hi w' g K M S st ini A n c B m d ls es :=
 ⟨h.box.below hb h.box.lt, h.ss.below hb (.inl h.top), h.se.below hb (.inl h.top), h.ok, h.h1, h.h2, h.h3, h.nam, Nat.le_trans h.top hb.size⟩
theorem SysX.only {b : Nat} (h : SysX lo hi w g K M S st ini A n c B m d ls es) (hb : Only b (b + 1) w w') (hlo : b < lo) (hg : b ≠ g) : SysX lo hi w' g K M S st ini A n c B m d ls es :=
 ⟨h.box.only hb (by omega), h.ss.only hb (.inr hlo), h.se.only hb (.inr hlo), h.ok, h.h1, h.h2, h.h3, h.nam, Nat.le_trans h.top hb.size⟩
theorem SysX.grownX {K0 : Nat} {row : Option Nat} (h : SysX lo hi w g K M S st ini A n c B m d ls es) (hg : w.grownBy w' row) (hr : ∀ q, row = some q → K0 ≤ q) (h1 : hi ≤ K0) (h2 : g < K0) : SysX lo hi w' g K M S st ini A n c B m d ls es := by
 have hne : ∀ b, b < K0 → some b ≠ row := fun b hb e => by have := hr b e.symm; omega
 exact ⟨h.box.grown hg (hne g h2), Sl.keep h.ss hg.size (fun q _ h4 h5 => hg.block q h5 (hne q (by omega))), Sl.keep h.se hg.size (fun q _ h4 h5 => hg.block q h5 (hne q (by omega))), h.ok, h.h1, h.h2, h.h3, h.nam, Nat.le_trans h.top hg.size⟩
theorem SysX.wide (h : SysX lo hi w g K M S st ini A n c B m d ls es) {lo' hi' : Nat} (h1 : lo' ≤ lo) (h2 : hi ≤ hi') (h3 : hi' ≤ w.heap.size) : SysX lo' hi' w g K M S st ini A n c B m d ls es :=
 ⟨h.box, h.ss.more h1 h2, h.se.more h1 h2, h.ok, h.h1, h.h2, h.h3, h.nam, h3⟩
theorem SysX.putX (h : SysX lo hi w g K M S st ini A n c B m d ls es) {b : Nat} (hb : hi ≤ b) (hg : g ≠ b) (v0 v1 v2 v3 : Value) : SysX lo hi (put4 w b v0 v1 v2 v3) g K M S st ini A n c B m d ls es := by
 have hZ := put4_size w b v0 v1 v2 v3;exact ⟨(put4_other w b v0 v1 v2 v3 hg).trans h.box, Sl.keep h.ss (by omega) (fun q _ h4 _ => put4_other _ _ _ _ _ _ (by omega)), Sl.keep h.se (by omega) (fun q _ h4 _ => put4_other _ _ _ _ _ _ (by omega)), h.ok, h.h1, h.h2, h.h3, h.nam, by rw [hZ]; exact h.top⟩
theorem SysX.putL (h : SysX lo hi w g K M S st ini A n c B m d ls es) {b : Nat} (hb : b < lo) (hg : b < g) (v0 v1 v2 v3 : Value) : SysX lo hi (put4 w b v0 v1 v2 v3) g K M S st ini A n c B m d ls es := by
 have hZ := put4_size w b v0 v1 v2 v3;exact ⟨(put4_other w b v0 v1 v2 v3 (by omega)).trans h.box, Sl.keep h.ss (by omega) (fun q h4 _ _ => put4_other _ _ _ _ _ _ (by omega)), Sl.keep h.se (by omega) (fun q h4 _ _ => put4_other _ _ _ _ _ _ (by omega)), h.ok, h.h1, h.h2, h.h3, h.nam, by rw [hZ]; exact h.top⟩
theorem SysX.newX (h : SysX lo hi w g K M S st ini A n c B m d ls es) {lo2 K' M' S' st' ini' : Nat} {A' : Option Addr} {n' c' : Nat} {B' : Option Addr} {m' d' : Nat} {ls' : List ByteArray} {es' : List Ed}
  (hA : SlS w lo2 w.heap.size A' n' ls') (hB : SlE w lo2 w.heap.size B' m' es') (hv : ltsV ((st' : Int), (ini' : Int), ls', es') = true) (h1 : st' ≤ S') (h2 : m' ≤ M') (h3 : n' ≤ K') (hn : NamD ls') (hl : g < lo2 ∧ lo ≤ lo2) :
  SysX lo (put4 w g (.int .i64 (st' : Int)) (.int .i64 (ini' : Int)) (.slice A' n' c') (.slice B' m' d')).heap.size (put4 w g (.int .i64 (st' : Int)) (.int .i64 (ini' : Int)) (.slice A' n' c') (.slice B' m' d')) g K' M' S' st' ini' A' n' c' B' m' d' ls' es' := by
 have hZ := put4_size w g (.int .i64 (st' : Int)) (.int .i64 (ini' : Int)) (.slice A' n' c') (.slice B' m' d');refine ⟨?_, (Sl.keep hA (by omega) (fun q h4 _ _ => put4_other _ _ _ _ _ _ (by omega))).more hl.2 (by omega), (Sl.keep hB (by omega) (fun q h4 _ _ => put4_other _ _ _ _ _ _ (by omega))).more hl.2 (by omega), hv, h1, h2, h3, hn, zR⟩;have k1 := heap_setCell_same w g 0 _ _ (.int .i64 (st' : Int)) h.box;have k2 := heap_setCell_same _ g 1 _ _ (.int .i64 (ini' : Int)) k1;have k3 := heap_setCell_same _ g 2 _ _ (.slice A' n' c') k2;exact heap_setCell_same _ g 3 _ _ (.slice B' m' d') k3
end
theorem results_cell2 {fn : Func} {p q : Tmp} {ty tz : TypeId} (h : fn.results = #[.cell p ty, .cell q tz]) (tmps : Array Value) (P : Program) (w : World) :
  (results fn tmps).run P w = ((asAddr (tmps.getD p undef)).run P w).andThen fun a w₁ => ((loadVar ty a).run P w₁).andThen fun v w₂ => ((asAddr (tmps.getD q undef)).run P w₂).andThen fun b w₃ => ((loadVar tz b).run P w₃).andThen fun u w₄ => .ok (.tuple #[v, u]) w₄ := by
 simp only [results, h]
 simp [Sem.run_bind, Result.andThen]
theorem put4_below {K : Nat} {a w : World} (h : Below K a w) {g : Nat} (hg : K ≤ g) (v0 v1 v2 v3 : Value) : Below K a (put4 w g v0 v1 v2 v3) :=
 (((h.setCell (p := ⟨g, 0, none⟩) hg v0).setCell (p := ⟨g, 1, none⟩) hg v1).setCell (p := ⟨g, 2, none⟩) hg v2).setCell (p := ⟨g, 3, none⟩) hg v3
theorem Only.belowB {b : Nat} {a w w' : World} (g : Only b (b + 1) w w') (h : Below a.heap.size a w) (hK : a.heap.size ≤ b) : Below a.heap.size a w' :=
 ⟨g.os.trans h.os, g.tape.trans h.tape, g.output.trans h.output, Nat.le_trans h.size g.size, fun q hq => (g.block q (Nat.lt_of_lt_of_le hq h.size) (.inl (by omega))).trans (h.block q hq)⟩
def TwoD (w : World) (e : Ending) (w' : World) : Prop := ∃ (Na ia : Nat) (A : Option Addr) (n c : Nat) (B : Option Addr) (m d : Nat) (la : List ByteArray) (ea : List Ed) (Nb ib : Nat) (A' : Option Addr) (n' c' : Nat) (B' : Option Addr) (m' d' : Nat) (lb : List ByteArray) (eb : List Ed),
 e = .returned (.tuple #[.agg #[.int .i64 (Na : Int), .int .i64 (ia : Int), .slice A n c, .slice B m d], .agg #[.int .i64 (Nb : Int), .int .i64 (ib : Int), .slice A' n' c', .slice B' m' d']]) ∧ SysA w' Na ia A n B m la ea ∧ SysA w' Nb ib A' n' B' m' lb eb ∧
 Na ≤ 7 ∧ m ≤ 64 ∧ n ≤ 7 ∧ NamD la ∧ Nb ≤ 9 ∧ m' ≤ 200 ∧ n' ≤ 9 ∧ NamD lb ∧ Below w.heap.size w w'
theorem R8Two_calls (A0 : Option Addr) (n0 c0 : Nat) (code : List Int) (w : World) (h : SlU w 0 w.heap.size A0 n0 code) (hc : ∀ x, x ∈ code → 0 ≤ x ∧ x ≤ 255) (hn : n0 ≤ maxLen) :
  Calls Tryz.prog 34 #[.slice A0 n0 c0] w (TwoD w) := by
 have hEe := hide elem_edge;have hb0 := ((Below.refl w.heap.size w).alloc zR (.cells #[.int .i64 0, .int .i64 0, .slice none 0 0, .slice none 0 0] 27)).alloc (by rw [World.size_alloc]; omega) (.cells #[.int .i64 0, .int .i64 0, .slice none 0 0, .slice none 0 0] 27);have zA : (w.alloc (.cells #[.int .i64 0, .int .i64 0, .slice none 0 0, .slice none 0 0] 27)).heap.size = w.heap.size + 1 := World.size_alloc _ _;have hrA0 : LtsBox (w.alloc (.cells #[.int .i64 0, .int .i64 0, .slice none 0 0, .slice none 0 0] 27)) w.heap.size 0 0 none 0 0 none 0 0 := heap_alloc_new w _;have hrA : LtsBox ((w.alloc (.cells #[.int .i64 0, .int .i64 0, .slice none 0 0, .slice none 0 0] 27)).alloc (.cells #[.int .i64 0, .int .i64 0, .slice none 0 0, .slice none 0 0] 27)) w.heap.size 0 0 none 0 0 none 0 0 := hrA0.below (K := w.heap.size + 1) (bR.alloc (by omega) _) (by omega);have hrB : LtsBox ((w.alloc (.cells #[.int .i64 0, .int .i64 0, .slice none 0 0, .slice none 0 0] 27)).alloc (.cells #[.int .i64 0, .int .i64 0, .slice none 0 0, .slice none 0 0] 27)) (w.heap.size + 1) 0 0 none 0 0 none 0 0 := by rw [← zA]; exact heap_alloc_new _ _
 obtain ⟨w1, hw1⟩ : ∃ w1, w1 = (w.alloc (.cells #[.int .i64 0, .int .i64 0, .slice none 0 0, .slice none 0 0] 27)).alloc (.cells #[.int .i64 0, .int .i64 0, .slice none 0 0, .slice none 0 0] 27) := ⟨_, rfl⟩;rw [← hw1] at hb0 hrA hrB;have hz1 : w1.heap.size = w.heap.size + 1 + 1 := by rw [hw1, World.size_alloc, zA]
 have q1 := hide (l00From_calls A0 n0 c0 code w1 ((h.below hb0 (.inl zR)).more zR hb0.size) hc hn);obtain ⟨hz1a, hz1b⟩ : w1.heap.size ≤ w.heap.size + 2 ∧ w.heap.size + 2 ≤ w1.heap.size := ⟨by omega, by omega⟩;have hb01 := hide hb0;replace hrA := hide hrA;replace hrB := hide hrB;clear h hc hz1 zA hb0 hrA0;go_enter Tryz.func34, Tryz.ntmps34;go_upto_region 1 with fail;rw [← hw1];replace hw1 := hide hw1;go_wp2_with fail;refine q1.out.mono ?_;rintro e w2 ⟨rfl, hS2, hb2, hz2⟩;obtain ⟨bs, hbs⟩ : ∃ bs, bs = w1.heap.size := ⟨_, rfl⟩;rw [← hbs] at hS2 ⊢;have q2 := hide (l15DrawOk_calls bs 0 w2 hS2 (by omega));obtain ⟨hbs1, hbs2⟩ : bs ≤ w1.heap.size ∧ w1.heap.size ≤ bs := ⟨by omega, by omega⟩;obtain ⟨hz2a, hz2b⟩ : w2.heap.size ≤ bs + 1 ∧ bs + 1 ≤ w2.heap.size := ⟨by omega, by omega⟩;have hb12 := hide hb2;replace hbs := hide hbs;clear q1 hS2 hz2 hb2;go_wp2_with fail;refine q2.out.mono ?_;rintro e w3 hd;obtain ⟨Na, ia, A, n, c, B, m, d, la, ea, rfl, hsys, h7, h64, hn7, hnam, hs3, hon3, hA, hB⟩ := hd.sys (by omega);have hm64 : m ≤ 64 := by have := hsys.se.len; omega
 have hz3 := hon3.size;have hb13 := hide (hon3.belowB hb12.out hbs2);have kA : LtsBox (w3.alloc (ltsC Na ia A n c B m d)) w3.heap.size (Na : Int) (ia : Int) A n c B m d := heap_alloc_new w3 _;have hX4 : SysX (bs + 1) w3.heap.size (w3.alloc (ltsC Na ia A n c B m d)) w3.heap.size 7 64 7 Na ia A n c B m d la ea :=
  ⟨kA, (hA.below ((Below.refl w3.heap.size w3).alloc zR _) (.inl zR)).more hz2b zR, (hB.below ((Below.refl w3.heap.size w3).alloc zR _) (.inl zR)).more hz2b zR, hsys.ok, h7, hm64, hn7, hnam, by rw [World.size_alloc]; omega⟩
 have hs4 := hs3.alloc (ltsC Na ia A n c B m d);have hb14 := hide (hb13.out.alloc hb13.out.size (ltsC Na ia A n c B m d));obtain ⟨w4, hw4⟩ : ∃ w4, w4 = w3.alloc (ltsC Na ia A n c B m d) := ⟨_, rfl⟩;obtain ⟨bA, hbA⟩ : ∃ bA, bA = w3.heap.size := ⟨_, rfl⟩;have z4 : w4.heap.size = bA + 1 := by rw [hw4, World.size_alloc, hbA]
 rw [← hw4] at hX4 hs4 hb14;rw [← hbA] at hX4;obtain ⟨hbA1, hz4a, hz4b⟩ : bs + 1 ≤ bA ∧ w4.heap.size ≤ bA + 1 ∧ bA + 1 ≤ w4.heap.size := ⟨by omega, by omega, by omega⟩;have q3 := hide (l15DrawOk_calls bs _ w4 hs4 (by omega));have hX4h := hide hX4;have hbn1 := hide hX4.box.lt;clear q2 hd hsys hs3 hon3 hA hB kA hs4 z4 h64;go_upto_region 3 with fail;rw [← show w4 = w3.alloc (.cells #[.int .i64 (Na : Int), .int .i64 (ia : Int), .slice A n c, .slice B m d] 27) from hw4, ← hbA];replace hw4 := hide hw4;replace hbA := hide hbA;go_wp2_with fail;refine q3.out.mono ?_;rintro e w5 hd;obtain ⟨Nb, ib, A', n', c', B', m', d', lb, eb, rfl, hsys, h7', h64', hn7', hnam', hs5, hon5, hA, hB⟩ := hd.sys (by omega);have hm64' : m' ≤ 64 := by have := hsys.se.len; omega
 have hz5 := hon5.size;have hX5 := hX4h.out.only hon5 (by omega) (by omega);have hb15 := hide (hon5.belowB hb14.out hbs2);have kB : LtsBox (w5.alloc (ltsC Nb ib A' n' c' B' m' d')) w5.heap.size (Nb : Int) (ib : Int) A' n' c' B' m' d' := heap_alloc_new w5 _;have hY6 : SysX (bs + 1) w5.heap.size (w5.alloc (ltsC Nb ib A' n' c' B' m' d')) w5.heap.size 9 200 9 Nb ib A' n' c' B' m' d' lb eb :=
  ⟨kB, (hA.below ((Below.refl w5.heap.size w5).alloc zR _) (.inl zR)).more (by omega) zR, (hB.below ((Below.refl w5.heap.size w5).alloc zR _) (.inl zR)).more (by omega) zR, hsys.ok, by omega, by omega, by omega, hnam', by rw [World.size_alloc]; omega⟩
 have hX6 := hX5.below ((Below.refl w5.heap.size w5).alloc zR (ltsC Nb ib A' n' c' B' m' d'));have hs6 := hs5.alloc (ltsC Nb ib A' n' c' B' m' d');have hb16 := hide (hb15.out.alloc hb15.out.size (ltsC Nb ib A' n' c' B' m' d'));obtain ⟨w6, hw6⟩ : ∃ w6, w6 = w5.alloc (ltsC Nb ib A' n' c' B' m' d') := ⟨_, rfl⟩;obtain ⟨bB, hbB⟩ : ∃ bB, bB = w5.heap.size := ⟨_, rfl⟩;have z6 : w6.heap.size = bB + 1 := by rw [hw6, World.size_alloc, hbB]
 rw [← hw6] at hX6 hY6 hs6 hb16;rw [← hbB] at hY6;obtain ⟨hbB1, hz6a, hz6b⟩ : bA + 1 ≤ bB ∧ w6.heap.size ≤ bB + 1 ∧ bB + 1 ≤ w6.heap.size := ⟨by omega, by omega, by omega⟩;have q4 := hide (pick_calls bs _ 6 w6 hs6 (by omega));replace hX6 := hide hX6;replace hY6 := hide hY6;clear q3 hd hsys hs5 hon5 hA hB kB hs6 z6 h64' hX5;go_upto_region 4 with fail;rw [← show w6 = w5.alloc (.cells #[.int .i64 (Nb : Int), .int .i64 (ib : Int), .slice A' n' c', .slice B' m' d'] 27) from hw6, ← hbB];replace hw6 := hide hw6;replace hbB := hide hbB
 go_upto_block 0 with (first | (go_at_call 84; (with_reducible refine q4.out.mono ?_); rintro e w7 ⟨x, rfl, x0, x1, hs7⟩; obtain ⟨x, rfl⟩ : ∃ k : Nat, x = (k : Int) := ⟨x.toNat, by omega⟩))
 have hX7 := hide (hX6.out.only hs7.only (by omega) (by omega));have hY7 := hide (hY6.out.only hs7.only (by omega) (by omega));have hb17 := hide (hs7.only.belowB hb16.out hbs2);have hsr7 := hide hs7.src;have hz7 := hs7.size;have hx5 : x ≤ 5 := by omega
 obtain ⟨hz7a, hz7b⟩ : w7.heap.size ≤ bB + 1 ∧ bB + 1 ≤ w7.heap.size := ⟨by omega, by omega⟩;clear q4 hs7 x0 x1 hX6 hY6 hz7
 go_cut [15] (fun v15 wx => ∃ (Nb ib : Nat) (A' : Option Addr) (n' c' : Nat) (B' : Option Addr) (m' d' : Nat) (lb : List ByteArray) (eb : List Ed), Hid (SysX (bs + 1) wx.heap.size wx bB 9 200 9 Nb ib A' n' c' B' m' d' lb eb) ∧ Hid (SysX (bs + 1) bA wx bA 7 64 7 Na ia A n c B m d la ea) ∧ Hid (Below w1.heap.size w1 wx))
 case first =>
  go_upto_if 16 with fail
  go_cut [16] (fun v16 wx => v16 = .bool (decide (x ≤ 1)) ∧ wx = w7)
  case first =>
   by_cases e0 : x = 0
   ·have g0 : ((x : Int) == 0) = true := by simp [e0]
    have g1 : decide (x ≤ 1) = true := by simp [e0]
    go_wp2_with fail;go_meet
    exact ⟨by rw [g0, g1], rfl⟩
   ·have g0 : ((x : Int) == 0) = false := by rw [beq_eq_false_iff_ne]; omega
    by_cases e1 : x = 1
    ·have g2 : ((x : Int) == 1) = true := by simp [e1]
     go_wp2_with fail;go_meet
     exact ⟨by rw [decide_eq_true (show x ≤ 1 by omega)], rfl⟩
    ·have g2 : ((x : Int) == 1) = false := by rw [beq_eq_false_iff_ne]; omega
     go_wp2_with fail;go_meet
     exact ⟨by rw [decide_eq_false (show ¬ x ≤ 1 by omega)], rfl⟩
  case rest =>
   obtain ⟨rfl, hwc⟩ := hcut;obtain rfl : w7 = wc := hwc.symm;have hXs := hX7.out;have hAs := hXs.ss.more zR hXs.top;have hBs := hXs.se.more zR hXs.top
   by_cases c1 : x ≤ 1
   ·have g1 : decide (x ≤ 1) = true := decide_eq_true c1
    have q5 := hide (l13DrawLike_calls bs _ hsr7.out (by omega) hAs hBs hXs.ok (hXs.sz (by omega)) c d bA hXs.box (by omega) hXs.nam (by have := hXs.h3; omega) hXs.h2 hXs.h1);clear hXs hAs hBs;go_wp2_with fail;refine q5.out.mono ?_;rintro e w8 ⟨st, i8, A8, n8, c8, B8, m8, d8, l8, e8, rfl, hA8, hB8, hv8, s1, s2, s3, hn8, hs8, hon8⟩;have hX9 := hide (hX7.out.only hon8 (by omega) (by omega));have hY9 := hide (hY7.out.only hon8 (by omega) (by omega));have hb9 := hide (hon8.belowB hb17.out hbs2);replace hA8 := hide hA8;replace hB8 := hide hB8;replace hv8 := hide hv8;replace hn8 := hide hn8;clear q5 hs8 hon8;have hB0 := hY9.out.box;have y0 := hB0.c0;have y1 := hB0.c1;have y2 := hB0.c2;have y3 := hB0.c3;have z0 := hB0.f0;have z1 := hB0.f1;have z2 := hB0.f2;have z3 := hB0.f3;clear hB0;go_wp2_with fail;go_meet;exact ⟨_, _, _, _, _, _, _, _, _, _, hide (hY9.out.newX hA8.out hB8.out hv8.out (by omega) (by omega) (by omega) hn8.out (by omega)), hide (hX9.out.putX (by omega) (by omega) _ _ _ _), hide (put4_below hb9.out (by omega) _ _ _ _)⟩
   ·have g1 : decide (x ≤ 1) = false := decide_eq_false c1
    by_cases c2 : x = 2
    ·have g2 : ((x : Int) == 2) = true := by simp [c2]
     have q5 := hide (one_calls bs _ 2 w7 hsr7.out (by omega));clear hXs hAs hBs;go_wp2_with fail;refine q5.out.mono ?_;rintro e w7a ⟨yes, rfl, hs7a⟩;have hX7a := hX7.out.only hs7a.only (by omega) (by omega);have hY7a := hide (hY7.out.only hs7a.only (by omega) (by omega));have hb17a := hide (hs7a.only.belowB hb17.out hbs2);have hza := hs7a.size;have q6 := hide (l15Least_calls (hX7a.sys (by omega)) c d bA hX7a.box yes hX7a.nam (by have := hX7a.h3; omega) (by have := hX7a.h2; omega));have hN7 := hX7a.h1;have hM7 := hX7a.h2;replace hX7a := hide hX7a;clear q5 hs7a;go_wp2_with fail;refine q6.out.mono ?_;rintro e w8 ⟨st, i8, A8, n8, c8, B8, m8, d8, l8, e8, rfl, hA8, hB8, hv8, s1, s2, s3, hn8, hb8⟩;have hX9 := hide (hX7a.out.below hb8);have hY9 := hide (hY7a.out.below hb8);have hb9 := hide (hb17a.out.trans (hb8.mono hb17a.out.size));replace hA8 := hide hA8;replace hB8 := hide hB8;replace hv8 := hide hv8;replace hn8 := hide hn8;clear q6 hb8;have hB0 := hY9.out.box;have y0 := hB0.c0;have y1 := hB0.c1;have y2 := hB0.c2;have y3 := hB0.c3;have z0 := hB0.f0;have z1 := hB0.f1;have z2 := hB0.f2;have z3 := hB0.f3;clear hB0;go_wp2_with fail;go_meet;exact ⟨_, _, _, _, _, _, _, _, _, _, hide (hY9.out.newX hA8.out hB8.out hv8.out (by omega) (by omega) (by omega) hn8.out (by omega)), hide (hX9.out.putX (by omega) (by omega) _ _ _ _), hide (put4_below hb9.out (by omega) _ _ _ _)⟩
    ·have g2 : ((x : Int) == 2) = false := by rw [beq_eq_false_iff_ne]; omega
     by_cases c3 : x = 3
     ·have g3 : ((x : Int) == 3) = true := by simp [c3]
      have q6 := hide (l13Least_calls (hXs.sys (by omega)) c d bA hXs.box hXs.nam (by have := hXs.h3; omega) (by have := hXs.h2; omega));have hN7 := hXs.h1;have hM7 := hXs.h2;clear hXs hAs hBs;go_wp2_with fail;refine q6.out.mono ?_;rintro e w8 ⟨st, i8, A8, n8, c8, B8, m8, d8, l8, e8, rfl, hA8, hB8, hv8, s1, s2, s3, hn8, hb8⟩;have hX9 := hide (hX7.out.below hb8);have hY9 := hide (hY7.out.below hb8);have hb9 := hide (hb17.out.trans (hb8.mono hb17.out.size));replace hA8 := hide hA8;replace hB8 := hide hB8;replace hv8 := hide hv8;replace hn8 := hide hn8;clear q6 hb8;have hB0 := hY9.out.box;have y0 := hB0.c0;have y1 := hB0.c1;have y2 := hB0.c2;have y3 := hB0.c3;have z0 := hB0.f0;have z1 := hB0.f1;have z2 := hB0.f2;have z3 := hB0.f3;clear hB0;go_wp2_with fail;go_meet;exact ⟨_, _, _, _, _, _, _, _, _, _, hide (hY9.out.newX hA8.out hB8.out hv8.out (by omega) (by omega) (by omega) hn8.out (by omega)), hide (hX9.out.putX (by omega) (by omega) _ _ _ _), hide (put4_below hb9.out (by omega) _ _ _ _)⟩
     ·have g3 : ((x : Int) == 3) = false := by rw [beq_eq_false_iff_ne]; omega
      by_cases c4 : x = 4
      ·have g4 : ((x : Int) == 4) = true := by simp [c4]
       have hL8 : Own 3 ev (w7.alloc (.cells #[] 84)) w7.heap.size 84 (some ⟨w7.heap.size, 0, none⟩) 0 0 ([] : List Ed) := Own.made (α := Ed) (size := 3) (f := ev) w7 84 zR;have hX8 := hXs.below ((Below.refl w7.heap.size w7).alloc zR (.cells #[] 84));have hY8 := hide (hY7.out.below ((Below.refl w7.heap.size w7).alloc zR (.cells #[] 84)));have hs8 := hide (hsr7.out.alloc (.cells #[] 84));have hb8 := hide (hb17.out.alloc hb17.out.size (.cells #[] 84));have k3 := hX8.box.c3;have hz8 : w7.heap.size ≤ (w7.alloc (.cells #[] 84)).heap.size := by rw [World.size_alloc]; omega
       have hlen := hX8.se.len;have hlla := hX8.ss.len;have hn7 := hX8.h3;have hN7 := hX8.h1;have hvA := hX8.ok;have hnmA := hX8.nam;replace hX8 := hide hX8;replace hL8 := hide hL8;replace hvA := hide hvA;replace hnmA := hide hnmA;clear hXs hAs hBs;go_upto_region 14 with (first | (at_builtin; (with_reducible refine wpList_app rfl (.tmp 31) (.tmp 33) rfl hEe.out flat_ev rfl hL8.out rfl hX8.out.se ?d1 hz8 ?_); rotate_right; intro A5 c5 w9 hown5 hgr5 hb5 hat5))
       case d1 => have := hX8.out.h2; omega
       rw [Nat.zero_add, List.nil_append] at hown5
       try rw [Nat.zero_add]
       have hX9' := hX8.out.grownX hgr5 (fun q e => (hL8.out.lt q e).1) (by omega) (by omega);have hY9' := hY8.out.grownX hgr5 (fun q e => (hL8.out.lt q e).1) hY7.out.top (by omega);have hb9' := hb8.out.grown hgr5 hb8.out.size (fun q e => by have := (hL8.out.lt q e).1; omega);have hs9' := hs8.out.grow hgr5 (fun q e => by have := (hL8.out.lt q e).1; omega);have hzq9 := hgr5.size;obtain ⟨wD, hwD⟩ : ∃ wD, wD = w9.drew := ⟨_, rfl⟩;have hbD : Below w9.heap.size w9 wD := by rw [hwD]; exact bR.drew
       have hX0 := hide (hX9'.below hbD);have hY0 := hide (hY9'.below hbD);have hO0 : Hid (Own 3 ev wD w7.heap.size 84 A5 m c5 ea) := hown5.below hbD zR;have hb0 := hide (hb9'.trans (hbD.mono hb9'.size));have hsD := hs9'.below hbD (by have := hX9'.top; omega);have hzD := hbD.size;have hE1 : Hid (EdD Na n ea) := fun e he => by
        have h1 := (ltsV_edge hvA.out).1 e he;rw [hlla] at h1;exact h1
       have p1 := hide (pick_calls bs _ (Na : Int) wD hsD (by omega));have hNa1 : 1 ≤ Na := by have := (ltsV_edge hvA.out).2; omega
       have hn1 : 1 ≤ n := by
        have h1 := (ltsV_names hvA.out).1;unfold namesB at h1;rw [Bool.and_eq_true] at h1;have h2 := inB_true.1 h1.1;omega
       have hia7 : ia < Na := by have := (ltsV_edge hvA.out).2.2; omega
       replace hwD := hide hwD;clear hgr5 hb5 hat5 hX9' hY9' hb9' hs9' hbD hown5 hsD k3 hL8 hX8 hY8 hs8 hb8;refine lateT_begin (S := fun w' => w'.cell? ⟨bA, 0, none⟩ = some (.int .i64 (Na : Int)) ∧ w'.cell? ⟨bA, 2, none⟩ = some (.slice A n c)) (st := 17) (by kernel_rfl) ?_;rw [← show wD = _ from hwD.out];have hS0 : (fun w' : World => w'.cell? ⟨bA, 0, none⟩ = some (.int .i64 (Na : Int)) ∧ w'.cell? ⟨bA, 2, none⟩ = some (.slice A n c)) wD := ⟨hX0.out.box.c0, hX0.out.box.c2⟩;refine tkB 0 [17] hS0 ?_;refine tkB 1 [17] hS0 ?_;refine tkB 2 [17] hS0 ?_;refine tkB 3 [17] hS0 ?_;refine tkB 5 [17] hS0 ?_;refine tkB 6 [17] hS0 ?_;refine tkB 7 [17] hS0 ?_;refine tkB 10 [17] hS0 ?_;refine tkB 11 [17] hS0 ?_;refine tkB 12 [17] hS0 ?_
-- SEVERAL MAY COME: [4, 8]
       refine tkB 8 [17] hS0 ?_
-- SEVERAL MAY COME: [4, 8]
       refine lS 4 fun K hK => ?_
       go_simp;go_at_call 84
       (with_reducible refine p1.out.mono ?_)
       rintro e wp1 ⟨f, rfl, f0, f1, hs1⟩;have hX1 := hide (hX0.out.only hs1.only (by omega) (by omega));have hY1 := hide (hY0.out.only hs1.only (by omega) (by omega));have hO1 := hide (hO0.out.keep (w' := wp1) fun g e => hs1.only.block g (hO0.out.lt g e).2 (by have := (hO0.out.lt g e).1; omega));have hb1 := hide (hs1.only.belowB hb0.out (show w1.heap.size ≤ bs by omega));have p2 := hide (pick_calls bs _ (n : Int) wp1 hs1.src (by omega));replace hs1 := hide hs1
       (try go_wp2_with fail)
       refine kP hK (fun _ => ⟨hX1.out.box.c0, hX1.out.box.c2⟩) ?_;clear hK K;refine lS 9 fun K hK => ?_
       go_simp;go_at_call 84
       (with_reducible refine p2.out.mono ?_)
       rintro e wp2 ⟨l, rfl, l0, l1, hs2⟩;have hX2 := hide (hX1.out.only hs2.only (by omega) (by omega));have hY2 := hide (hY1.out.only hs2.only (by omega) (by omega));have hO2 := hide (hO1.out.keep (w' := wp2) fun g e => hs2.only.block g (hO1.out.lt g e).2 (by have := (hO1.out.lt g e).1; omega));have hb2 := hide (hs2.only.belowB hb1.out (show w1.heap.size ≤ bs by omega));have p3 := hide (pick_calls bs _ (Na : Int) wp2 hs2.src (by omega));replace hs2 := hide hs2
       (try go_wp2_with fail)
       refine kP hK (fun _ => ⟨hX2.out.box.c0, hX2.out.box.c2⟩) ?_;clear hK K;refine lS 13 fun K hK => ?_
       go_simp;go_at_call 84
       (with_reducible refine p3.out.mono ?_)
       rintro e wp3 ⟨t, rfl, t0, t1, hs3⟩;have hX3 := hide (hX2.out.only hs3.only (by omega) (by omega));have hY3 := hide (hY2.out.only hs3.only (by omega) (by omega));have hO3 := hide (hO2.out.keep (w' := wp3) fun g e => hs3.only.block g (hO2.out.lt g e).2 (by have := (hO2.out.lt g e).1; omega));have hb3 := hide (hs3.only.belowB hb2.out (show w1.heap.size ≤ bs by omega));have hsE := hide hs3.src;replace hs3 := hide hs3
       (try go_wp2_with fail)
       have hOa := hide (hO3.out.alloc (.cells #[.int .i64 f, .int .i64 l, .int .i64 t] 84));have hXa := hide (hX3.out.below ((Below.refl wp3.heap.size wp3).alloc zR (.cells #[.int .i64 f, .int .i64 l, .int .i64 t] 84)));have hYa := hide (hY3.out.below ((Below.refl wp3.heap.size wp3).alloc zR (.cells #[.int .i64 f, .int .i64 l, .int .i64 t] 84)));have hba := hide (hb3.out.alloc hb3.out.size (.cells #[.int .i64 f, .int .i64 l, .int .i64 t] 84));have hlit := hide (Sl.lit1' (f := ev) wp3 84 (f, (l : Int), t) #[.int .i64 f, .int .i64 l, .int .i64 t] rfl 3 _ rfl);have hza : w7.heap.size ≤ (wp3.alloc (.cells #[.int .i64 f, .int .i64 l, .int .i64 t] 84)).heap.size := by have h1 := hs1.out.size; have h2 := hs2.out.size; have h3 := hs3.out.size; rw [World.size_alloc]; omega
       have hsza : (m + 1) * 24 ≤ 140737488355328 := by omega
       have hE2 := hide (hE1.out.app (f := f) (l := l) (t := t) (by omega) (by omega) (by omega));refine kP hK (fun _ => ⟨hX3.out.box.c0, hX3.out.box.c2⟩) ?_;clear hK K;refine lS 14 fun K hK => ?_
       go_simp;refine kP hK (fun _ => ⟨hX3.out.box.c0, hX3.out.box.c2⟩) ?_
       clear hK K;refine lS 15 fun K hK => ?_
       go_simp;refine kP hK (fun _ => ⟨hXa.out.box.c0, hXa.out.box.c2⟩) ?_
       clear hK K;refine lS 16 fun K hK => ?_
       refine step_appL (m := 1) (d := 1) (by rfl) (.tmp 35) (.tmp 50) (by rfl) hEe.out flat_ev (by go_simp) hOa.out (by go_simp) hlit.out hsza hza ?_;intro A6 c6 wq hown7 hgr7 hb7 hat7;have hXq := hide (hXa.out.grownX hgr7 (fun q e => (hOa.out.lt q e).1) (by omega) (by omega));have hYq := hide (hYa.out.grownX hgr7 (fun q e => (hOa.out.lt q e).1) (by omega) (by omega));have hbq := hide (hba.out.grown hgr7 hba.out.size (fun q e => by have := (hOa.out.lt q e).1; omega));have hzq := hgr7.size;replace hown7 := hide hown7;clear hgr7 hb7 hat7;refine kP hK (fun _ => ⟨hXq.out.box.c0, hXq.out.box.c2⟩) ?_;clear hK K;refine lS 17 fun K hK => ?_
       go_simp;refine kP hK nH ?_
       clear hK K;refine lateT_done (by kernel_rfl) ?_ _;have cq0 := hXq.out.box.c0;have cq1 := hXq.out.box.c1;have cq2 := hXq.out.box.c2;have hlq := hown7.out.len;have q9 := hide (l11Make_calls (Na : Int) (ia : Int) A n c la A6 (m + 1) c6 _ wq (hXq.out.ss.more (Nat.zero_le _) hXq.out.top) ((hown7.out.sl flat_ev).more (Nat.zero_le _) zR) (fun e he => (hE2.out e he).2.1) (by omega) (by omega));go_wp2_with fail;refine q9.out.mono ?_;rintro e w8 ⟨A8, n8, c8, B8, m8, d8, e8, rfl, hA8, hB8, hM8, hb8⟩;have hX9 := hide (hXq.out.below hb8);have hY9 := hide (hYq.out.below hb8);have hb9 := hide (hbq.out.trans (hb8.mono hbq.out.size));have hlA := hA8.len;have hlB := hB8.len;have hlj := joi_len la;have hml := hM8.2.1;have hn8 := hide (namD_joi hnmA.out);have hv8 : Hid (ltsV ((Na : Int), (ia : Int), joiF la, e8) = true) := made_valid (by omega) (by omega) (namD_labs hnmA.out) (by omega) (by omega) (fun e he => ⟨(hE2.out e he).1, (hE2.out e he).2.2⟩) hM8;rw [List.length_append, List.length_singleton] at hml;have hzq2 := hYq.out.top;replace hA8 := hide hA8;replace hB8 := hide hB8;clear q9 hb8 hM8 cq0 cq1 cq2;have hB0 := hY9.out.box;have y0 := hB0.c0;have y1 := hB0.c1;have y2 := hB0.c2;have y3 := hB0.c3;have z0 := hB0.f0;have z1 := hB0.f1;have z2 := hB0.f2;have z3 := hB0.f3;clear hB0;go_wp2_with fail;go_meet;exact ⟨_, _, _, _, _, _, _, _, _, _, hide (hY9.out.newX hA8.out hB8.out hv8.out (by omega) (by omega) (by omega) hn8.out (by omega)), hide (hX9.out.putX (by omega) (by omega) _ _ _ _), hide (put4_below hb9.out (by omega) _ _ _ _)⟩
      ·have g4 : ((x : Int) == 4) = false := by rw [beq_eq_false_iff_ne]; omega
       clear hXs hAs hBs;go_wp2_with fail;go_meet;exact ⟨_, _, _, _, _, _, _, _, _, _, hY7.out.wide zR hY7.out.top zR, hX7.out, hb17.out⟩
 case rest =>
  obtain ⟨Nb2, ib2, A2, n2, c2, B2, m2, d2, lb2, eb2, hY, hX, hb⟩ := hcut;have rA := hrA.out.below hb.out (by omega);have rB := hrB.out.below hb.out (by omega);have r0 := rA.c0;have r1 := rA.c1;have r2 := rA.c2;have r3 := rA.c3;have f0 := rA.f0;have f1 := rA.f1;have f2 := rA.f2;have f3 := rA.f3;have s0 := rB.c0;have s1 := rB.c1;have s2 := rB.c2;have s3 := rB.c3;have g0 := rB.f0;have g1 := rB.f1;have g2 := rB.f2;have g3 := rB.f3;have a0 := hX.out.box.c0;have a1 := hX.out.box.c1;have a2 := hX.out.box.c2;have a3 := hX.out.box.c3;have b0 := hY.out.box.c0;have b1 := hY.out.box.c1;have b2 := hY.out.box.c2;have b3 := hY.out.box.c3;go_upto_region 16 with fail
  go_region
  go_wp2_with fail
  (try simp only [Exit.inBlock, Exit.then])
  refine bodyPost_ret_by (v := .tuple #[.agg #[.int .i64 (Na : Int), .int .i64 (ia : Int), .slice A n c, .slice B m d], .agg #[.int .i64 (Nb2 : Int), .int .i64 (ib2 : Int), .slice A2 n2 c2, .slice B2 m2 d2]]) ?_ rfl ?_
  focus
   rw [results_cell2 rfl];go_simp
  obtain ⟨wZ, hwZ⟩ : ∃ wZ, wZ = put4 (put4 wc w.heap.size (.int .i64 (Na : Int)) (.int .i64 (ia : Int)) (.slice A n c) (.slice B m d)) (w.heap.size + 1) (.int .i64 (Nb2 : Int)) (.int .i64 (ib2 : Int)) (.slice A2 n2 c2) (.slice B2 m2 d2) := ⟨_, rfl⟩;have hXZ := (hX.out.putL (b := w.heap.size) (by omega) (by omega) (.int .i64 (Na : Int)) (.int .i64 (ia : Int)) (.slice A n c) (.slice B m d)).putL (b := w.heap.size + 1) (by omega) (by omega) (.int .i64 (Nb2 : Int)) (.int .i64 (ib2 : Int)) (.slice A2 n2 c2) (.slice B2 m2 d2);have hYZ := (hY.out.putL (b := w.heap.size) (by omega) (by omega) (.int .i64 (Na : Int)) (.int .i64 (ia : Int)) (.slice A n c) (.slice B m d)).putL (b := w.heap.size + 1) (by omega) (by omega) (.int .i64 (Nb2 : Int)) (.int .i64 (ib2 : Int)) (.slice A2 n2 c2) (.slice B2 m2 d2);have hbZ : Below w.heap.size w wZ := by
   rw [hwZ];exact put4_below (put4_below (hb01.out.trans (hb.out.mono (by omega))) zR _ _ _ _) (by omega) _ _ _ _
  rw [← hwZ] at hXZ hYZ
  change TwoD w _ ((put4 (put4 wc w.heap.size (.int .i64 (Na : Int)) (.int .i64 (ia : Int)) (.slice A n c) (.slice B m d)) (w.heap.size + 1) (.int .i64 (Nb2 : Int)) (.int .i64 (ib2 : Int)) (.slice A2 n2 c2) (.slice B2 m2 d2)).drew)
  rw [← hwZ];have hD : Below wZ.heap.size wZ wZ.drew := bR.drew;exact ⟨Na, ia, A, n, c, B, m, d, la, ea, Nb2, ib2, A2, n2, c2, B2, m2, d2, lb2, eb2, rfl, (hXZ.below hD).sys (by omega), (hYZ.below hD).sys (by omega), hX.out.h1, hX.out.h2, hX.out.h3, hX.out.nam, hY.out.h1, hY.out.h2, hY.out.h3, hY.out.nam, hbZ.trans (hD.mono hbZ.size)⟩
end Go.Proofs.YtnhomkmfbngmgaaGreatDoor
namespace Go.Proofs.YtnhomkmfbngmgaaGreatDoor
open Go.ChangeShapes Go.WideShapes Go.ChangeAt Go.RowKit
def nm4 : List ByteArray := [⟨#[97]⟩, ⟨#[98]⟩, ⟨#[99]⟩, ⟨#[103, 101, 116]⟩]
theorem nm4_take {k : Nat} {x : ByteArray} {ts : List ByteArray} (h : ts.Sublist (nm4.take k)) (hx : nm4[k]? = some x) : (ts ++ [x]).Sublist (nm4.take (k + 1)) := by
 rw [List.take_add_one, hx];exact List.Sublist.append h (List.Sublist.refl _)
theorem nm4_skip {k : Nat} {ts : List ByteArray} (h : ts.Sublist (nm4.take k)) : ts.Sublist (nm4.take (k + 1)) := by
 rw [List.take_add_one];exact h.trans (List.sublist_append_left _ _)
theorem R8Names_calls (A0 : Option Addr) (n0 c0 : Nat) (code : List Int) (w : World) (h : SlU w 0 w.heap.size A0 n0 code) (hc : ∀ x, x ∈ code → 0 ≤ x ∧ x ≤ 255) (hn : n0 ≤ maxLen) :
  Calls Tryz.prog 35 #[.slice A0 n0 c0] w fun e w' => ∃ A n c ts, e = .returned (.slice A n c) ∧ Own 1 strv w' w.heap.size 9 A n c ts ∧ ts.Sublist nm4 ∧ Below w.heap.size w w' := by
 have hE := hide elem_str;have q1 := hide (l00From_calls A0 n0 c0 code w h hc hn);clear h hc;go_enter Tryz.func35, Tryz.ntmps35;go_wp2_with fail;refine q1.out.mono ?_;rintro e w2 ⟨rfl, hS2, hb2, hz2⟩;obtain ⟨bs, hbs⟩ : ∃ bs, bs = w.heap.size := ⟨_, rfl⟩;rw [← hbs] at hS2 hz2 ⊢;have hS0 := (hS2.alloc (.cells #[] 9)).alloc (.cells #[.string ⟨#[97]⟩, .string ⟨#[98]⟩, .string ⟨#[99]⟩, .string ⟨#[103, 101, 116]⟩] 9);have hon := ((Only.refl bs (bs + 1) w2).alloc' (.cells #[] 9)).alloc' (.cells #[.string ⟨#[97]⟩, .string ⟨#[98]⟩, .string ⟨#[99]⟩, .string ⟨#[103, 101, 116]⟩] 9);have hO0 : Own 1 strv ((w2.alloc (.cells #[] 9)).alloc (.cells #[.string ⟨#[97]⟩, .string ⟨#[98]⟩, .string ⟨#[99]⟩, .string ⟨#[103, 101, 116]⟩] 9)) w2.heap.size 9 (some ⟨w2.heap.size, 0, none⟩) 0 0 [] := (Own.made w2 9 zR).alloc _;have hbx := heap_alloc_new (w2.alloc (.cells #[] 9)) (.cells #[.string ⟨#[97]⟩, .string ⟨#[98]⟩, .string ⟨#[99]⟩, .string ⟨#[103, 101, 116]⟩] 9);rw [World.size_alloc] at hbx;have hz0 : w2.heap.size + 2 ≤ ((w2.alloc (.cells #[] 9)).alloc (.cells #[.string ⟨#[97]⟩, .string ⟨#[98]⟩, .string ⟨#[99]⟩, .string ⟨#[103, 101, 116]⟩] 9)).heap.size := by simp
 obtain ⟨wA, hwA⟩ : ∃ wA, wA = (w2.alloc (.cells #[] 9)).alloc (.cells #[.string ⟨#[97]⟩, .string ⟨#[98]⟩, .string ⟨#[99]⟩, .string ⟨#[103, 101, 116]⟩] 9) := ⟨_, rfl⟩;rw [← hwA] at hO0 hS0 hon hbx hz0;replace hO0 := hide hO0;replace hS0 := hide hS0;replace hon := hide hon;replace hbx := hide hbx;replace hb2 := hide hb2;obtain ⟨hz2a, hz2b⟩ : w2.heap.size ≤ bs + 1 ∧ bs + 1 ≤ w2.heap.size := ⟨by omega, by omega⟩;clear hS2 q1 hz2;replace hbs := hide hbs;go_upto_region 5 with fail;rw [← show wA = _ from hwA];replace hwA := hide hwA
 go_loopw [4, 6] (fun o i wr => ∃ (k : Nat) (A : Option Addr) (m c : Nat) (ts : List ByteArray), k ≤ 4 ∧ i = .int .i64 (k : Nat) ∧ o = .slice A m c ∧ m ≤ k ∧ Hid (Own 1 strv wr w2.heap.size 9 A m c ts) ∧ Hid (ts.Sublist (nm4.take k)) ∧ Hid (SrcW wr bs (2 * k)) ∧ Hid (Only bs (bs + 1) w2 wr) ∧ Hid (wr.heap[w2.heap.size + 1]? = wA.heap[w2.heap.size + 1]?) ∧ Hid (∀ g, (Value.slice A m c).ownBlock = some g → g ≠ w2.heap.size + 1) ∧ w2.heap.size + 2 ≤ wr.heap.size) (fun _ i _ => 4 - (intOf i).toNat)
 case atStart => exact ⟨0, _, 0, 0, [], Nat.zero_le _, rfl, rfl, zR, hO0.out, List.Sublist.refl _, hS0.out, hon.out, rfl, (fun g e => by cases e; exact Nat.ne_of_lt (Nat.lt_succ_self _)), hz0⟩
 case round =>
  clear hO0 hS0 hon;obtain ⟨k, A, m, c, ts, hk, rfl, rfl, hmk, hO, hD, hS, hon, hbk, hnb, hzr⟩ := hrel
  by_cases hlt : k < 4
  ·have k0 : (0 : Int) ≤ (k : Int) := by omega
   have k1 : (k : Int) < 4 := by omega
   have q := hide (one_calls bs (2 * k) 2 wr hS.out (by omega));have hc : ∃ x, nm4[k]? = some x ∧ ∀ W : World, W.heap[w2.heap.size + 1]? = wA.heap[w2.heap.size + 1]? → W.cell? ⟨w2.heap.size + 1, k, none⟩ = some (.string x) := by
    have : k = 0 ∨ k = 1 ∨ k = 2 ∨ k = 3 := by omega
    rcases this with rfl | rfl | rfl | rfl
    all_goals
     refine ⟨_, rfl, fun W hW => (cell_of_row _ _ _ _ _ (0, 0) (hW.trans hbx.out)).trans rfl⟩
   obtain ⟨x, hxm, hxc⟩ := hc;replace hxc := hide hxc;have hbw := hS.out.lt;replace hxm := hide hxm;go_upto_region 7 with fail;go_wp2_with fail;refine q.out.mono ?_;rintro e w5 ⟨v, rfl, hT⟩;have hO5 := hide (hO.out.keep (w' := w5) fun g e => hT.only.block g (hO.out.lt g e).2 (by have := (hO.out.lt g e).1; omega));have hS5 := hide (hT.src.more (show 2 * k + 2 ≤ 2 * (k + 1) by omega));have hon5 := hide (Only.trans' hon.out hT.only);have hbk5 := hide ((hT.only.block (w2.heap.size + 1) (by omega) (by omega)).trans hbk.out);have hz5 : w2.heap.size + 2 ≤ w5.heap.size := by have := hT.size; omega
   have cx := hxc.out w5 hbk5.out;clear q hO hS hon hbk hT
   cases v with
   | false =>
    clear cx;have hD2 := hide (nm4_skip hD.out);go_wp2_with fail;go_roundw
    case rel => exact ⟨k + 1, A, m, c, ts, by omega, by go_num, rfl, by omega, hO5.out, hD2.out, hS5.out, hon5.out, hbk5.out, hnb.out, hz5⟩
    case measure => simp [intOf]; omega
   | true =>
    have hza : w2.heap.size ≤ (w5.alloc (.cells #[.string x] 9)).heap.size := by rw [World.size_alloc]; omega
    have hOa := hide (hO5.out.alloc (.cells #[.string x] 9));have hSa := hide (hS5.out.alloc (.cells #[.string x] 9));have hona := hide (hon5.out.alloc' (.cells #[.string x] 9));have hbka : Hid ((w5.alloc (.cells #[.string x] 9)).heap[w2.heap.size + 1]? = wA.heap[w2.heap.size + 1]?) := (Below.heap_alloc _ _ _ (by omega)).trans hbk5.out;have hrow := hide (fun q (e : (Value.slice A m c).ownBlock = some q) => (hOa.out.lt q e).1);have hD2 := hide (nm4_take hD.out hxm.out);clear hO5 hS5 hon5 hbk5;go_wp2_with (first | (at_builtin; (with_reducible refine wpList_app rfl (.tmp 19) (.tmp 24) rfl hE.out flat_strv rfl hOa.out rfl (Sl.lit1' w5 9 x _ rfl 1 _ ?d0) ?d1 hza ?_); rotate_right; intro A6 c6 w6 hown6 hgr6 hb6 hat6))
    case d0 => rfl
    case d1 => omega
    have hS6 := hide (hSa.out.grow hgr6 (fun q e => by have := hrow.out q e; omega));have hon6 := hide (hona.out.grow hgr6 (fun q e => by have := hrow.out q e; omega));have hbk6 := hide ((hgr6.block (w2.heap.size + 1) (by rw [World.size_alloc]; omega) (fun e => hnb.out _ e.symm rfl)).trans hbka.out);have hnb6 : Hid (∀ g, (Value.slice A6 (m + 1) c6).ownBlock = some g → g ≠ w2.heap.size + 1) := fun g e => by
     rcases hat6 with h1 | h1
     ·exact hnb.out g (h1.symm.trans e)
     ·rw [h1] at e
      injection e with e;rw [World.size_alloc] at e;omega
    have hz6 := hgr6.size;rw [World.size_alloc] at hz6;replace hown6 := hide hown6;clear hgr6 hb6 hat6 hOa hSa hona hbka hrow;go_roundw
    case rel => exact ⟨k + 1, A6, _, c6, _, by omega, by go_num, rfl, by omega, hown6.out, hD2.out, hS6.out, hon6.out, hbk6.out, hnb6.out, by omega⟩
    case measure => simp [intOf]; omega
  ·have hk4 : k = 4 := by omega
   have hD9 := hD.out;rw [hk4] at hD9;have hD9 := hide (show ts.Sublist nm4 from hD9);have hO9 := hide (hO.out.sink (show w.heap.size ≤ w2.heap.size by have := hb2.out.size; omega));have hbF := hide (hon.out.belowB hb2.out (by have := hbs.out; omega));have g1 : ¬ (k : Int) < 4 := by omega
   have hk4h := hide hk4;clear hk4 hO hS hon hbk hnb hD;go_wp2_with fail;go_ret;exact ⟨A, m, c, rfl, ts, hO9.out, hD9.out, hbF.out⟩
open Go.Lib Go.Sort
theorem totS_nam {l : List ByteArray} (hn : l.Nodup) (h : NamD l) : totS l ≤ 1000 := by
 have hm : ∀ x, x ∈ l → x ∈ tauB :: nm5 := fun x hx => by
  rcases h x hx with e | e
  ·rw [e]; exact List.mem_cons_self ..
  ·exact List.mem_cons_of_mem _ e
 have h1 := sub_sum (fun s : ByteArray => s.size) hn hm;have h2 := sub_lenG hn hm;have h3 : ((tauB :: nm5).map fun s : ByteArray => s.size).sum ≤ 100 := by decide +kernel
 have h4 : (tauB :: nm5).length ≤ 10 := by decide +kernel
 unfold totS;have h5 : (l.map fun s : ByteArray => s.size).sum ≤ 100 := Nat.le_trans h1 h3;have h6 : l.length ≤ 10 := Nat.le_trans h2 h4
 show l.length + (l.map fun s : ByteArray => s.size).sum ≤ 1000
 omega
theorem NamD.joi {l : List ByteArray} (h : NamD l) : NamD (joiF l) := fun x hx => by
 rcases (joi_mem_iff _ _).1 hx with e | e
 ·exact .inl e
 ·exact h x e
theorem NamD.both {l r : List ByteArray} (h : NamD l) (g : NamD r) : NamD (l ++ r) := fun x hx => by
 rcases List.mem_append.1 hx with e | e
 ·exact h x e
 ·exact g x e
theorem NamD.hid {l : List ByteArray} (h : NamD l) (ns : List ByteArray) : NamD (trnL (hidN ns) l) := NamD.joi fun x hx => by
 obtain ⟨y, hy, rfl⟩ := List.mem_map.1 hx
 rcases hidN_or ns y with e | e
 ·rw [e]; exact h y hy
 ·exact .inl e
section
variable {w w' : World} {Na ia : Nat} {A : Option Addr} {n : Nat} {B : Option Addr} {m : Nat} {la : List ByteArray} {ea : List Ed} {Nb ib : Nat} {A' : Option Addr} {n' : Nat} {B' : Option Addr} {m' : Nat} {lb : List ByteArray} {eb : List Ed} {ns : List ByteArray} {S : List (Int × Int)} {arcs : List Arc} {i : Nat} {A2 : Option Addr} {n2 : Nat} {A3 : Option Addr} {n3 : Nat}
theorem PltR.sys (h : PltR w w' Na ia la ea Nb ib lb eb ns S arcs i A2 n2 A3 n3) (hv : ltsV (prodD S i la lb arcs) = true) (ha : NamD la) (hb : NamD lb) : SysA w' S.length i A2 n2 A3 n3 (joiF (la ++ lb)) (ltsEs (la ++ lb) arcs) :=
 ⟨h.2.1.here', h.2.2.1.here', hv, Nat.le_trans (totS_nam (joi_nodup _) (ha.both hb).joi) (by omega)⟩
theorem HidR.sys (h : HidR w w' Na ia la ea ns A2 n2 A3 n3) (hv : ltsV ((Na : Int), (ia : Int), la, ea) = true) (ha : NamD la) : SysA w' Na ia A2 n2 A3 n3 (trnL (hidN ns) la) (trnE (hidN ns) la ea) :=
 ⟨h.1.here', h.2.1.here', turn_valid hv (hidN_or ns), Nat.le_trans (totS_nam (joi_nodup _) (ha.hid ns)) (by omega)⟩
theorem areLike_calls (h : SysA w Na ia A n B m la ea) (g : SysA w Nb ib A' n' B' m' lb eb) (c d c' d' : Nat) (he : Env w) (hsum : Na + Nb ≤ 80) :
  Calls Tryz.prog 19 #[.agg #[.int .i64 (Na : Int), .int .i64 (ia : Int), .slice A n c, .slice B m d], .agg #[.int .i64 (Nb : Int), .int .i64 (ib : Int), .slice A' n' c', .slice B' m' d']] w fun e w' => ∃ v : Bool, e = .returned (.tuple #[.bool v, .int .i64 0]) ∧ (v = true ↔ Bis (tE la ea) (tE lb eb) ia ib) ∧ Below w.heap.size w w' := by
 have hma := h.many;have hmb := g.many;refine (areBis_calls h g c d c' d' he hsum).mono ?_;rintro e w' ⟨r, rfl, hL, hb⟩;refine ⟨_, rfl, ?_, hb⟩;rw [decide_eq_true_eq];exact uni_alike (by omega) (by omega) h.three g.three hL h.bounds.2 g.bounds.2
end
theorem nm4_act : ∀ x, x ∈ nm4 → actB x = true ∧ x.size ≤ 1048576 := by
 have h : nm4.all (fun x => actB x && decide (x.size ≤ 1048576)) = true := by decide +kernel
 intro x hx;have := List.all_eq_true.1 h x hx;rw [Bool.and_eq_true, decide_eq_true_eq] at this;exact this
theorem nm4_nodup : nm4.Nodup := by decide +kernel
theorem tau_nm4 : tauB ∉ nm4 := fun h => by
 have h1 : nm4.all (fun x => !(decide (x = tauB))) = true := by decide +kernel
 have h2 := List.all_eq_true.1 h1 _ h
 simp at h2
structure PartS (ts sh hd : List ByteArray) (k : Nat) : Prop where
 inS : ∀ x, x ∈ sh → ∃ j, j < k ∧ ts[j]? = some x
 inH : ∀ x, x ∈ hd → ∃ j, j < k ∧ ts[j]? = some x
 ap : ∀ x, x ∈ sh → x ∉ hd
theorem PartS.start (ts : List ByteArray) : PartS ts [] [] 0 := ⟨fun x hx => (by cases hx), fun x hx => (by cases hx), fun x hx => (by cases hx)⟩
theorem PartS.left {ts sh hd : List ByteArray} {k : Nat} {x : ByteArray} (h : PartS ts sh hd k) (hn : ts.Nodup) (hx : ts[k]? = some x) : PartS ts (sh ++ [x]) hd (k + 1) where
 inS := fun y hy => by
  rcases List.mem_append.1 hy with hy | hy
  ·obtain ⟨j, h1, h2⟩ := h.inS y hy; exact ⟨j, by omega, h2⟩
  ·rw [List.mem_singleton.1 hy]; exact ⟨k, by omega, hx⟩
 inH := fun y hy => by obtain ⟨j, h1, h2⟩ := h.inH y hy; exact ⟨j, by omega, h2⟩
 ap := fun y hy hy2 => by
  rcases List.mem_append.1 hy with hy | hy
  ·exact h.ap y hy hy2
  ·obtain ⟨j, h1, h2⟩ := h.inH y hy2
   rw [List.mem_singleton.1 hy] at h2;have := nd_idx hn h2 hx;omega
theorem PartS.right {ts sh hd : List ByteArray} {k : Nat} {x : ByteArray} (h : PartS ts sh hd k) (hn : ts.Nodup) (hx : ts[k]? = some x) : PartS ts sh (hd ++ [x]) (k + 1) where
 inH := fun y hy => by
  rcases List.mem_append.1 hy with hy | hy
  ·obtain ⟨j, h1, h2⟩ := h.inH y hy; exact ⟨j, by omega, h2⟩
  ·rw [List.mem_singleton.1 hy]; exact ⟨k, by omega, hx⟩
 inS := fun y hy => by obtain ⟨j, h1, h2⟩ := h.inS y hy; exact ⟨j, by omega, h2⟩
 ap := fun y hy hy2 => by
  rcases List.mem_append.1 hy2 with hy2 | hy2
  ·exact h.ap y hy hy2
  ·obtain ⟨j, h1, h2⟩ := h.inS y hy
   rw [List.mem_singleton.1 hy2] at h2;have := nd_idx hn h2 hx;omega
theorem PartS.names {ts sh hd : List ByteArray} {k : Nat} (h : PartS ts sh hd k) (ht : ts.Sublist nm4) : NamesD sh hd ∧ (∀ x, x ∈ sh → actB x = true ∧ x.size ≤ 1048576) ∧ ∀ x, x ∈ hd → actB x = true ∧ x.size ≤ 1048576 := by
 have h1 : ∀ x, x ∈ sh → x ∈ nm4 := fun x hx => by obtain ⟨j, -, e⟩ := h.inS x hx; exact ht.subset (List.mem_of_getElem? e)
 have h2 : ∀ x, x ∈ hd → x ∈ nm4 := fun x hx => by obtain ⟨j, -, e⟩ := h.inH x hx; exact ht.subset (List.mem_of_getElem? e)
 exact ⟨⟨h.ap, fun hx => tau_nm4 (h1 _ hx)⟩, fun x hx => nm4_act x (h1 x hx), fun x hx => nm4_act x (h2 x hx)⟩
end Go.Proofs.YtnhomkmfbngmgaaGreatDoor
namespace Go.Proofs.YtnhomkmfbngmgaaGreatDoor
open Go.ChangeShapes Go.WideShapes Go.ChangeAt Go.RowKit Go.Sort
structure RelD (w : World) (K : Nat) (s0 s1 : Int) (A2 : Option Addr) (n2 k2 : Nat) (A3 : Option Addr) (n3 k3 : Nat) (r0 r1 : Int) (B2 : Option Addr) (m2 j2 : Nat) (B3 : Option Addr) (m3 j3 : Nat) (lt : List ByteArray) (et : List Ed) (lp : List ByteArray) (ep : List Ed) : Prop where
 t2 : SlS w 0 K A2 n2 lt
 t3 : SlE w 0 K A3 n3 et
 u2 : SlS w 0 K B2 m2 lp
 u3 : SlE w 0 K B3 m3 ep
 hes : n3 ≤ 1048576
 hfs : m3 ≤ 1048576
 ht : ltsV (s0, s1, lt, et) = true
 hp : ltsV (r0, r1, lp, ep) = true
theorem RelD.below {w w' : World} {K B : Nat} {s0 s1 : Int} {A2 : Option Addr} {n2 k2 : Nat} {A3 : Option Addr} {n3 k3 : Nat} {r0 r1 : Int} {B2 : Option Addr} {m2 j2 : Nat} {B3 : Option Addr} {m3 j3 : Nat} {lt : List ByteArray} {et : List Ed} {lp : List ByteArray} {ep : List Ed}
  (h : RelD w K s0 s1 A2 n2 k2 A3 n3 k3 r0 r1 B2 m2 j2 B3 m3 j3 lt et lp ep) (hb : Below B w w') (hK : K ≤ B) : RelD w' K s0 s1 A2 n2 k2 A3 n3 k3 r0 r1 B2 m2 j2 B3 m3 j3 lt et lp ep :=
 ⟨h.t2.below hb (.inl hK), h.t3.below hb (.inl hK), h.u2.below hb (.inl hK), h.u3.below hb (.inl hK), h.hes, h.hfs, h.ht, h.hp⟩
open Go.Lib
structure QbW (w wD wr : World) (b7 : Nat) (s i : Int) (A1 : Option Addr) (n2 c1 : Nat) (J : List ByteArray) (Ab : Option Addr) (kb cb : Nat) (A3 : Option Addr) (k c3 : Nat) (E : List Ed) : Prop where
 box : LtsBox wr b7 s i A1 n2 c1 Ab kb cb
 res : LtsBox wr (w.heap.size + 2) 0 0 none 0 0 none 0 0
 labs : Own 1 strv wr (w.heap.size + 3) 9 A1 n2 c1 J
 eds : Own 3 ev wr (w.heap.size + 3) 84 A3 k c3 E
 apart : ∀ q, (Value.slice A3 k c3).ownBlock = some q → q < b7 ∨ wD.heap.size ≤ q
 kept : ∀ q, q < wD.heap.size → (q < w.heap.size + 3 ∨ b7 < q) → wr.heap[q]? = wD.heap[q]?
 sz : wD.heap.size ≤ wr.heap.size
 env : wr.os = wD.os ∧ wr.tape = wD.tape ∧ wr.output = wD.output
 bel : Below w.heap.size w wD
 at_ : w.heap.size + 3 ≤ b7 ∧ b7 < wD.heap.size
section
variable {w wD wr w' : World} {b7 : Nat} {s i : Int} {A1 : Option Addr} {n2 c1 : Nat} {J : List ByteArray} {Ab : Option Addr} {kb cb : Nat} {A3 : Option Addr} {k c3 : Nat} {E : List Ed}
theorem QbW.below (h : QbW w wD wr b7 s i A1 n2 c1 J Ab kb cb A3 k c3 E) (hb : Below wr.heap.size wr w') : QbW w wD w' b7 s i A1 n2 c1 J Ab kb cb A3 k c3 E :=
 ⟨h.box.below hb h.box.lt, h.res.below hb h.res.lt, h.labs.below hb zR, h.eds.below hb zR, h.apart, fun q h1 h2 => (hb.block q (by have := h.sz; omega)).trans (h.kept q h1 h2), Nat.le_trans h.sz hb.size,
  ⟨hb.os.trans h.env.1, hb.tape.trans h.env.2.1, hb.output.trans h.env.2.2⟩, h.bel, h.at_⟩
theorem QbW.drew (h : QbW w wD wr b7 s i A1 n2 c1 J Ab kb cb A3 k c3 E) : QbW w wD wr.drew b7 s i A1 n2 c1 J Ab kb cb A3 k c3 E := h.below bR.drew
theorem QbW.grown (h : QbW w wD wr b7 s i A1 n2 c1 J Ab kb cb A3 k c3 E) (hg : wr.grownBy w' (Value.slice A3 k c3).ownBlock) {A7 : Option Addr} {k7 c7 : Nat} {E' : List Ed} (ho : Own 3 ev w' (w.heap.size + 3) 84 A7 k7 c7 E')
  (hat : (Value.slice A7 k7 c7).ownBlock = (Value.slice A3 k c3).ownBlock ∨ (Value.slice A7 k7 c7).ownBlock = some wr.heap.size) : QbW w wD w' b7 s i A1 n2 c1 J Ab kb cb A7 k7 c7 E' := by
 have hb := h.eds.otherT h.box (by decide);have hr := h.eds.otherT h.res (by decide);refine ⟨(hg.block _ h.box.lt hb).trans h.box, (hg.block _ h.res.lt hr).trans h.res, h.labs.kept hg ?_, ho, fun q hq => ?_, fun q h1 h2 => ?_, Nat.le_trans h.sz hg.size, ⟨hg.os.trans h.env.1, hg.tape.trans h.env.2.1, hg.output.trans h.env.2.2⟩, h.bel, h.at_⟩
 ·rcases h.labs.2.2 with ⟨hv, hn⟩ | ⟨g, cap, cur, hv, hbg, hgc, -⟩
  ·exact .inl (by rw [hv]; rfl)
  ·right
   rw [hv];exact h.eds.otherT hgc (by decide)
 ·rcases hat with e | e
  ·exact h.apart q (by rw [← e]; exact hq)
  ·right
   have e2 := hq.symm.trans e;injection e2 with e2;have := h.sz;omega
 ·refine (hg.block q (by have := h.sz; omega) fun e => ?_).trans (h.kept q h1 h2)
  have h3 := (h.eds.lt q e.symm).1;have h4 := h.apart q e.symm
  rcases h2 with h2 | h2 <;> omega
theorem QbW.set (h : QbW w wD wr b7 s i A1 n2 c1 J Ab kb cb A3 k c3 E) : QbW w wD (wr.setCell ⟨b7, 3, none⟩ (.slice A3 k c3)) b7 s i A1 n2 c1 J A3 k c3 A3 k c3 E := by
 have hb := h.eds.otherT h.box (by decide);have hl : some b7 ≠ (Value.slice A1 n2 c1).ownBlock := h.labs.otherT h.box (by decide);refine ⟨h.box.set3, (Below.heap_setCell _ _ _ _ (by have := h.at_; show w.heap.size + 2 ≠ b7; omega)).trans h.res, h.labs.asideL hl _, h.eds.asideL hb _, h.apart, fun q h1 h2 => (Below.heap_setCell _ _ _ _ (by have := h.at_; show q ≠ b7; omega)).trans (h.kept q h1 h2), by rw [World.size_setCell]; exact h.sz, h.env, h.bel, h.at_⟩
theorem QbW.later (h : QbW w wD wD b7 s i A1 n2 c1 J Ab kb cb A3 k c3 E) (ha : ∀ q, (Value.slice A3 k c3).ownBlock = some q → q < b7) (hb : Below wD.heap.size wD w') : QbW w w' w' b7 s i A1 n2 c1 J Ab kb cb A3 k c3 E := by
 have h2 := h.below hb;exact ⟨h2.box, h2.res, h2.labs, h2.eds, fun q hq => .inl (ha q hq), fun _ _ _ => rfl, zR, ⟨rfl, rfl, rfl⟩, h.bel.trans (hb.mono h.bel.size), h.at_.1, by have := h.at_.2; have := hb.size; omega⟩
theorem QbW.done (h : QbW w wD wr b7 s i A1 n2 c1 J A3 k c3 A3 k c3 E) (v0 v1 v2 v3 : Value) :
  SlS (put4 wr (w.heap.size + 2) v0 v1 v2 v3) w.heap.size (put4 wr (w.heap.size + 2) v0 v1 v2 v3).heap.size A1 n2 J ∧ SlE (put4 wr (w.heap.size + 2) v0 v1 v2 v3) w.heap.size (put4 wr (w.heap.size + 2) v0 v1 v2 v3).heap.size A3 k E ∧ Below w.heap.size w (put4 wr (w.heap.size + 2) v0 v1 v2 v3) := by
 have hz := put4_size wr (w.heap.size + 2) v0 v1 v2 v3;have ha := h.at_;have hs := h.bel.size;refine ⟨?_, ?_, ?_⟩
 ·exact (Sl.keep (h.labs.sl flat_strv) (Nat.le_of_eq hz.symm) fun q h1 h2 h3 => put4_other _ _ _ _ _ _ (by omega)).more (by omega) (Nat.le_of_eq hz.symm)
 ·exact (Sl.keep (h.eds.sl flat_ev) (Nat.le_of_eq hz.symm) fun q h1 h2 h3 => put4_other _ _ _ _ _ _ (by omega)).more (by omega) (Nat.le_of_eq hz.symm)
 ·refine ⟨h.env.1.trans h.bel.os, h.env.2.1.trans h.bel.tape, h.env.2.2.trans h.bel.output, by rw [hz]; exact Nat.le_trans hs h.sz, fun q hq => ?_⟩
  exact (put4_other _ _ _ _ _ _ (by omega)).trans ((h.kept q (by omega) (.inl (by omega))).trans (h.bel.block q hq))
end
noncomputable def mbP (N ini r : Nat) (dv : Bool) (es : List Ed) : List Int := itP (refB (partF (reachF N es (ini : Int)) es) (reachF N es (ini : Int)).length dv) (reachF N es (ini : Int)).length r
noncomputable def mbE (N ini r : Nat) (dv : Bool) (es : List Ed) : List Ed := quoB (partF (reachF N es (ini : Int)) es) (reachF N es (ini : Int)).length dv (mbP N ini r dv es)
structure MinB (w w' : World) (N ini : Nat) (n : Nat) (ls : List ByteArray) (es : List Ed) (dv : Bool) (r c0 i0 : Nat) (A2 : Option Addr) (A3 : Option Addr) (n3 : Nat) : Prop where
 ss : SlS w' w.heap.size w'.heap.size A2 n ls
 se : SlE w' w.heap.size w'.heap.size A3 n3 (mbE N ini r dv es)
 ok : ltsV ((numB (mbP N ini r dv es) : Int), (c0 : Int), ls, mbE N ini r dv es) = true
 sz : totS ls ≤ 100000
 last : LastG (refB (partF (reachF N es (ini : Int)) es) (reachF N es (ini : Int)).length dv) (reachF N es (ini : Int)).length r
 at0 : (reachF N es (ini : Int))[i0]? = some (ini : Int)
 blk : (mbP N ini r dv es)[i0]? = some (c0 : Int)
 lab : ∀ e, e ∈ mbE N ini r dv es → 0 ≤ e.2.1 ∧ e.2.1 < (ls.length : Int)
 few : numB (mbP N ini r dv es) ≤ N
 bel : Below w.heap.size w w'
theorem MinB.sys {w w' : World} {N ini n : Nat} {ls : List ByteArray} {es : List Ed} {dv : Bool} {r c0 i0 : Nat} {A2 A3 : Option Addr} {n3 : Nat} (h : MinB w w' N ini n ls es dv r c0 i0 A2 A3 n3) : SysA w' (numB (mbP N ini r dv es)) c0 A2 n A3 n3 ls (mbE N ini r dv es) := ⟨h.ss.here', h.se.here', h.ok, h.sz⟩
section
variable {w : World} {N ini : Nat} {A : Option Addr} {n : Nat} {B : Option Addr} {m : Nat} {ls : List ByteArray} {es : List Ed}
end
end Go.Proofs.YtnhomkmfbngmgaaGreatDoor
namespace Go.Proofs.YtnhomkmfbngmgaaGreatDoor
open Go.ChangeShapes Go.WideShapes Go.ChangeAt Go.RowKit Go.Sort
def idxOf (s : List Bool) : List Int := ((List.range s.length).filter (inS s)).map Int.ofNat
end Go.Proofs.YtnhomkmfbngmgaaGreatDoor
namespace Go.Proofs.YtnhomkmfbngmgaaGreatDoor
open Go.ChangeShapes Go.WideShapes Go.Deep Go.RowKit
theorem u8_wf {n : Int} (h : (Lit.int .u8 n).wf = true) : 0 ≤ n ∧ n ≤ 255 := by
 simp [Lit.wf, IntKind.min, IntKind.max, IntKind.signed, IntKind.bits] at h
 omega
section
variable {H : Type} {enc : TypeId × Value → H} {P : Program} {w : World} {base : Nat} {spare : Nat → Bool} {held : Bool}
theorem open_SlU {t e : TypeId} (ht : P.underlying t = some (.slice e)) (hC : P.cellsOf e = 1) (hi : P.underlying e = some (.int .u8)) {v : Value} {d : DataW H} {p : List MemPlace} (h : DataW.Trod enc P w base spare held t v d p)
  {n' c' : Nat} {A' : Option Addr} (hv : v = .slice A' n' c') (hz : ∀ b off, MemPlace.cell b off ∈ p → w.frozen? ⟨b, off, none⟩ = false) : ∃ A n c l, v = .slice A n c ∧ n ≤ maxLen ∧ SlU w base w.heap.size A n l ∧ ∀ x, x ∈ l → 0 ≤ x ∧ x ≤ 255 := by
 obtain ⟨fuel, hf⟩ := h;have key := open_flat (w := w) (base := base) (spare := spare) (held := held) (fun x : {n : Int // 0 ≤ n ∧ n ≤ 255} => byv x.1) ht hC (by omega) (fun fuel cs y hy hl => by
  obtain ⟨a, ea, _, hw⟩ := DataW.trod_int hi hy;exact ⟨⟨a, u8_wf hw⟩, ea⟩) hf hz
 obtain ⟨A, n, c, l, e1, e2, e3⟩ := key;subst hv
 simp [Value.cells] at e1
 refine ⟨A, n, c, l.map Subtype.val, by simp [e1], e2, ⟨by rw [List.length_map]; exact e3.1, fun hn => ?_⟩, fun x hx => ?_⟩
 ·obtain ⟨b, off, q1, q2, q3, q4, q5⟩ := e3.2 hn
  refine ⟨b, off, q1, q2, q3, q4, fun k x hx j u hu => ?_⟩;rw [List.getElem?_map] at hx
  cases hk : l[k]? with
  | none => rw [hk] at hx; cases hx
  | some y =>
   rw [hk] at hx
   cases hx
   exact q5 k y hk j u hu
 ·obtain ⟨y, -, rfl⟩ := List.mem_map.1 hx
  exact y.2
end
end Go.Proofs.YtnhomkmfbngmgaaGreatDoor
