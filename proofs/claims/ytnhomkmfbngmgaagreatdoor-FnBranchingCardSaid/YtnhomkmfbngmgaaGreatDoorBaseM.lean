/-
  Several texts in one:
  The reference's marks of the states that diverge: that the
  spec.l15Refine: the answer is a partition, finer than the
  spec.l13Round, l13Rounds, l13Part: rounds of refinement by
  spec.l15Part: the answer is a partition. Conditions: sizes.
  spec.l11Place: the first place of a number. Conditions: at
  SplitRound, RefineOnce and the test of a partition, by the
  What the laws over a drawn system begin with: bytes that are
-/
import Derived.Test.YtnhomkmfbngmgaaGreatDoorBaseB
import Derived.Test.YtnhomkmfbngmgaaGreatDoorBaseG
import Derived.Test.YtnhomkmfbngmgaaGreatDoorBaseH
import Derived.Test.YtnhomkmfbngmgaaGreatDoorBaseI
import Derived.Test.YtnhomkmfbngmgaaGreatDoorBaseK
import Derived.Test.YtnhomkmfbngmgaaGreatDoorBaseL
set_option linter.unusedSimpArgs false
set_option linter.unusedVariables false
namespace Go.Proofs.YtnhomkmfbngmgaaGreatDoor
open Go.ChangeShapes Go.WideShapes Go.ChangeAt Go.RowKit Go.Sort
set_option linter.unusedVariables false
set_option linter.unusedSimpArgs false

set_option maxRecDepth 100000 in
set_option maxHeartbeats 6400000 in
theorem l15Diverge_calls {w : World} {N ini : Nat} {A : Option Addr} {n : Nat} {B : Option Addr} {m : Nat} {ls : List ByteArray} {es : List Ed} (h : SysA w N ini A n B m ls es) (c d bx : Nat) (hbx : LtsBox w bx (N : Int) (ini : Int) A n c B m d) (P : Option Addr) (cP : Nat) (p : List Int) (hP : SlI w 0 w.heap.size P N p) :
  Calls Tryz.prog 242 #[.pointer (some ⟨bx, 0, none⟩), .slice P N cP] w fun e w' => ∃ b, e = .returned (.slice (some ⟨w.heap.size, 0, none⟩) N N) ∧ MkB w w' N b ∧ w.heap.size + 1 ≤ w'.heap.size ∧ Below w.heap.size w w' := by
 have hmn := h.many
 obtain ⟨⟨hN1, hN2⟩, hini⟩ := h.bounds
 have hthr := hide h.three
 have hAll : ∀ wx, Below w.heap.size w wx → SysA wx N ini A n B m ls es ∧ LtsBox wx bx (N : Int) (ini : Int) A n c B m d ∧ SlI wx 0 w.heap.size P N p := fun wx hx => ⟨h.below hx (Nat.le_refl _), hbx.below hx hbx.lt, hP.below hx (.inl (Nat.le_refl _))⟩
 replace hAll := hide hAll
 have b0 := hbx.c0
 have hmk := run_make_bool N (by omega)
 obtain ⟨w1, hw1⟩ : ∃ w1, w1 = w.alloc (.cells (madeCells #[.bool false] N) 4) := ⟨_, rfl⟩
 have hb1 : Hid (Below w.heap.size w w1) := by show Below _ _ _; rw [hw1]; exact (Below.refl _ _).alloc (Nat.le_refl _) _
 have hM1 : Hid (MkB w w1 N (setOf N fun _ => false)) := by show MkB _ _ _ _; rw [hw1]; exact ⟨SlB.made w N, by simp [setOf]⟩
 have hz1 : w.heap.size + 1 ≤ w1.heap.size := by rw [hw1, World.size_alloc]; exact Nat.le_refl _
 clear h hbx hP
 go_enter Tryz.func242, Tryz.ntmps242
 go_upto_region 2 with fail
 rw [← show w1 = _ from hw1]
 replace hw1 := hide hw1
 clear b0
 go_wp2_with fail
 go_loopw [6] (fun v6 wr => ∃ (k : Nat) (b : List Bool), k ≤ N ∧ v6 = .int .i64 (k : Nat) ∧ Hid (MkB w wr N b) ∧ w.heap.size + 1 ≤ wr.heap.size ∧ Hid (Below w.heap.size w wr)) (fun v _ => N - (intOf v).toNat)
 case atStart => exact ⟨0, _, Nat.zero_le _, rfl, hM1.out, hz1, hb1.out⟩
 case round =>
  clear hM1 hb1
  obtain ⟨k, b, hk, rfl, hs, hz, hb⟩ := hrel
  have b0 := (hAll.out wr hb.out).2.1.c0
  by_cases hlt : k < N
  ·have k0 : (0 : Int) ≤ (k : Int) := by omega
   have k1 : (k : Int) < (N : Int) := by omega
   obtain ⟨m1, m2⟩ := hs.out.at_ hlt
   have hs5 := hide (hs.out.put hlt true)
   have hb5 := hide (hb.out.setCell (p := ⟨w.heap.size, k, none⟩) (Nat.le_refl _) (.bool true))
   go_wp2_with fail
   go_roundw
   case rel => exact ⟨k + 1, b.set k true, by omega, by go_num, hs5.out, by rw [World.size_setCell]; exact hz, hb5.out⟩
   case measure => simp [intOf]; omega
  ·have k1 : ¬ (k : Int) < (N : Int) := by omega
   obtain ⟨wK, rfl⟩ : ∃ wK : World, wK = wr := ⟨_, rfl⟩
   have hsK := hs
   have hbK := hb
   have hzK := hz
   clear hs hb hz
   go_upto_region 7 with fail
   clear b0
   go_loopg [7] (N + 1) (fun G v7 wr => ∃ (s : List Bool) (mo : Bool), v7 = .bool mo ∧ Hid (MkB w wr N s) ∧ w.heap.size + 1 ≤ wr.heap.size ∧ Hid (Below w.heap.size w wr) ∧ Hid (numBR s + (if mo = true then 1 else 0) ≤ G))
   case atStart => exact ⟨b, true, rfl, hsK.out, hzK, hbK.out, by show _ ≤ _; rw [if_pos rfl]; have := numBR_le b; rw [hsK.out.2] at this; omega⟩
   case round =>
    clear hsK hbK
    obtain ⟨s, mo, rfl, hs, hzr, hb, hG⟩ := hrel
    cases mo with
    | false =>
     go_wp2_with fail
     go_ret
     exact ⟨s, rfl, hs.out, hzr, hb.out⟩
    | true =>
     have hg1 := hG.out
     rw [if_pos rfl] at hg1
     obtain ⟨G2, rfl⟩ : ∃ G2, gk = G2 + 1 := ⟨gk - 1, by omega⟩
     have hs0 := hs
     have hb0 := hb
     have hz0 := hzr
     obtain ⟨wo, rfl⟩ : ∃ wo : World, wo = wr := ⟨_, rfl⟩
     clear hG hs hb hzr
     go_upto_region 10 with fail
     go_loopw [7, 8] (fun v7 v8 wr => ∃ (k : Nat) (mo : Bool) (u : List Bool), k ≤ N ∧ v8 = .int .i64 (k : Nat) ∧ v7 = .bool mo ∧ Hid (MkB w wr N u) ∧ w.heap.size + 1 ≤ wr.heap.size ∧ Hid (Below w.heap.size w wr) ∧ Hid (numBR u + (if mo = true then 1 else 0) ≤ G2)) (fun _ v _ => N - (intOf v).toNat)
     case atStart => exact ⟨0, false, s, Nat.zero_le _, rfl, rfl, hs0.out, hz0, hb0.out, by show _ ≤ _; rw [if_neg (by decide)]; omega⟩
     case round =>
      clear hs0 hb0
      obtain ⟨k, mo, u, hk, rfl, rfl, hs, hz, hb, hG⟩ := hrel
      have b0 := (hAll.out wr hb.out).2.1.c0
      by_cases hlt : k < N
      ·have k0 : (0 : Int) ≤ (k : Int) := by omega
       have k1 : (k : Int) < (N : Int) := by omega
       obtain ⟨m1, m2⟩ := hs.out.at_ hlt
       by_cases hu : inS u k = true
       ·rw [hu] at m1
        replace hu := hide hu
        obtain ⟨wO, rfl⟩ : ∃ wO : World, wO = wr := ⟨_, rfl⟩
        have hsO := hs
        have hbO := hb
        have hzO := hz
        clear hs hb hz
        go_upto_region 15 with fail
        clear m1 m2 b0
        go_loopw [9, 10] (fun v9 v10 wr => ∃ (j : Nat) (go : Bool), j ≤ m ∧ v10 = .int .i64 (j : Nat) ∧ v9 = .bool go ∧ Hid (MkB w wr N u) ∧ w.heap.size + 1 ≤ wr.heap.size ∧ Hid (Below w.heap.size w wr)) (fun _ v _ => m - (intOf v).toNat)
        case atStart => exact ⟨0, false, Nat.zero_le _, rfl, rfl, hsO.out, hzO, hbO.out⟩
        case round =>
         clear hsO hbO
         obtain ⟨j, go, hj, rfl, rfl, hs, hz, hb⟩ := hrel
         have b3 := (hAll.out wr hb.out).2.1.c3
         by_cases hjlt : j < m
         ·have j0 : (0 : Int) ≤ (j : Int) := by omega
          have j1 : (j : Int) < (m : Int) := by omega
          obtain ⟨hSy, -, -⟩ := hAll.out wr hb.out
          obtain ⟨gB, oB, f, l, t, rfl, -, -, hgB, hx, x0, x1, x2, -⟩ := SlE.get hSy.se hjlt
          have hin := hthr.out _ (List.mem_of_getElem? hx)
          (try dsimp only at hin)
          obtain ⟨⟨hf0, hf1⟩, ⟨hl0, hl1⟩, ht0, ht1⟩ := hin
          obtain ⟨f, rfl⟩ : ∃ k : Nat, f = (k : Int) := ⟨f.toNat, by omega⟩
          obtain ⟨t, rfl⟩ : ∃ k : Nat, t = (k : Int) := ⟨t.toNat, by omega⟩
          have hfN : f < N := by omega
          have htN : t < N := by omega
          obtain ⟨wE, hwE⟩ : ∃ wE, wE = wr.alloc (.cells #[.int .i64 (f : Int), .int .i64 l, .int .i64 (t : Int)] 84) := ⟨_, rfl⟩
          obtain ⟨bE, hbE0⟩ : ∃ bE, bE = wr.heap.size := ⟨_, rfl⟩
          have hbE : Below wr.heap.size wr wE := by rw [hwE]; exact (Below.refl _ _).alloc (Nat.le_refl _) _
          have kE : wE.heap[bE]? = some (.cells #[.int .i64 (f : Int), .int .i64 l, .int .i64 (t : Int)] 84 (0, 0)) := by rw [hwE, hbE0]; exact heap_alloc_new wr _
          have z0 : wE.cell? ⟨bE, 0, none⟩ = some (.int .i64 (f : Int)) := (cell_of_row _ _ 0 _ _ (0, 0) kE).trans rfl
          have z1 : wE.cell? ⟨bE, 1, none⟩ = some (.int .i64 l) := (cell_of_row _ _ 1 _ _ (0, 0) kE).trans rfl
          have z2 : wE.cell? ⟨bE, 2, none⟩ = some (.int .i64 (t : Int)) := (cell_of_row _ _ 2 _ _ (0, 0) kE).trans rfl
          have hbW := hide (hb.out.trans (hbE.mono hb.out.size))
          have hPE := (hAll.out wE hbW.out).2.2
          have qI := hide (l15InertP_calls bE N P cP p f t l wE _ _ z0 z1 z2 hPE hfN htN)
          have f0' : (0 : Int) ≤ (f : Int) := by omega
          have f1' : (f : Int) < (N : Int) := by omega
          have t0' : (0 : Int) ≤ (t : Int) := by omega
          have t1' : (t : Int) < (N : Int) := by omega
          generalize hig : inG p ((f : Int), l, (t : Int)) = ig at qI
          replace hig := hide hig
          replace kE := hide kE
          replace hx := hide hx
          have hbEh := hide hbE
          have hzr := hb.out.size
          have hsE := hide (hs.out.below hz hbE)
          have hzE : w.heap.size + 1 ≤ wE.heap.size := Nat.le_trans hz hbE.size
          clear hSy hbE hs
          go_upto_region 18 with fail
          clear b3 x0 x1 x2
          rw [← show wE = _ from hwE, ← hbE0]
          replace hwE := hide hwE
          replace hbE0 := hide hbE0
          cases go with
          | true =>
           clear qI
           go_wp2_with fail
           go_roundw
           case rel => exact ⟨j + 1, true, by omega, by go_num, rfl, hsE.out, hzE, hbW.out⟩
           case measure => simp [intOf]; omega
          | false =>
           by_cases hfk : f = k
           ·subst hfk
            have g1 : ((f : Int) == (f : Int)) = true := by simp
            go_wp2_with fail
            refine qI.out.mono ?_
            rintro e w4 ⟨rfl, hb4⟩
            have hs4 := hide (hsE.out.below hzE hb4)
            have hz4 : w.heap.size + 1 ≤ w4.heap.size := Nat.le_trans hzE hb4.size
            have hb4W := hide (hbW.out.trans (hb4.mono hbW.out.size))
            obtain ⟨n1, n2⟩ := hs4.out.at_ htN
            have z24 := (hb4.cell (p := ⟨bE, 2, none⟩) (Array.getElem?_eq_some_iff.1 kE.out).1).trans z2
            clear qI hb4 z0 z1 z2
            cases ig with
            | false =>
             go_wp2_with fail
             go_roundw
             case rel => exact ⟨j + 1, false, by omega, by go_num, rfl, hs4.out, hz4, hb4W.out⟩
             case measure => simp [intOf]; omega
            | true =>
             go_wp2_with fail
             go_roundw
             case rel => exact ⟨j + 1, inS u t, by omega, by go_num, rfl, hs4.out, hz4, hb4W.out⟩
             case measure => simp [intOf]; omega
           ·have g1 : ((f : Int) == (k : Int)) = false := beq_eq_false_iff_ne.2 (by omega)
            clear qI
            go_wp2_with fail
            go_roundw
            case rel => exact ⟨j + 1, false, by omega, by go_num, rfl, hsE.out, hzE, hbW.out⟩
            case measure => simp [intOf]; omega
         ·obtain rfl : j = m := by omega
          have i1 : ¬ (j : Int) < (j : Int) := by omega
          obtain ⟨m1, m2⟩ := hs.out.at_ hlt
          cases go with
          | true =>
           go_wp2_with fail
           go_roundw
           case rel => exact ⟨k + 1, mo, u, by omega, by go_num, rfl, hs.out, hz, hb.out, hG.out⟩
           case measure => simp [intOf]; omega
          | false =>
           have hs5 := hide (hs.out.put hlt false)
           have hb5 := hide (hb.out.setCell (p := ⟨w.heap.size, k, none⟩) (Nat.le_refl _) (.bool false))
           have hG5 : Hid (numBR (u.set k false) + (if true = true then 1 else 0) ≤ G2) := by
            have h1 := numBR_off (s := u) (v := k) (by rw [hs.out.2]; exact hlt) hu.out
            have h2 := hG.out
            show _ ≤ _
            rw [if_pos rfl, h1]
            split at h2 <;> omega
           go_wp2_with fail
           go_roundw
           case rel => exact ⟨k + 1, true, u.set k false, by omega, by go_num, rfl, hs5.out, by rw [World.size_setCell]; exact hz, hb5.out, hG5.out⟩
           case measure => simp [intOf]; omega
       ·have hu2 : inS u k = false := Bool.eq_false_iff.2 hu
        rw [hu2] at m1
        replace hu := hide hu
        replace hu2 := hide hu2
        go_wp2_with fail
        go_roundw
        case rel => exact ⟨k + 1, mo, u, by omega, by go_num, rfl, hs.out, hz, hb.out, hG.out⟩
        case measure => simp [intOf]; omega
      ·have k1 : ¬ (k : Int) < (N : Int) := by omega
       go_wp2_with fail
       go_roundg G2
       case rel => exact ⟨u, mo, rfl, hs.out, hz, hb.out, hG.out⟩
       case measure => exact Nat.lt_succ_self _
end Go.Proofs.YtnhomkmfbngmgaaGreatDoor

namespace Go.Proofs.YtnhomkmfbngmgaaGreatDoor
open Go.ChangeShapes Go.WideShapes Go.ChangeAt Go.RowKit Go.Sort Go.Lib
set_option linter.unusedVariables false
set_option linter.unusedSimpArgs false

theorem rows_fun {w : World} {base : Nat} {A : Option Addr} {n c : Nat} {R : List (Hd × List Int)} (h : GrowH w base A n c R) (hs : ∀ r, r ∈ R → r.1.2.1 ≤ 1000) : ∃ f, RowsTo f n R := by
 refine ⟨fun i => ((R.map (·.2))[i]?).getD [], ?_, hs⟩
 refine List.ext_getElem (by simp [h.len]) fun i h1 h2 => ?_
 rw [List.getElem_map, List.getElem_map, List.getElem_range, List.getElem?_map, List.getElem?_eq_getElem (by simpa using h1)]
 rfl
def keyQ (N : Nat) (p : List Int) (f : Nat → List Int) : List Int := nkF ((List.range N).map fun i => (p[i]?, f i))
theorem keyQ_part (N : Nat) (p : List Int) (f : Nat → List Int) : PartN N (keyQ N p f) := ⟨by unfold keyQ; rw [nkF_len]; simp, nkF_norm _⟩
theorem keyQ_key {N : Nat} {p : List Int} {f : Nat → List Int} {i j : Nat} (hi : i < N) (hj : j < N) : sameB (keyQ N p f) i j ↔ p[i]? = p[j]? ∧ f i = f j := by
 unfold keyQ
 rw [nk_same (by simpa using hi) (by simpa using hj)]
 rw [List.getElem?_map, List.getElem?_map, List.getElem?_range hi, List.getElem?_range hj]
 simp
def FineTo (w w' : World) (Q : Option Addr) (N : Nat) (p : List Int) : Prop := ∃ q, SlI w' w.heap.size w'.heap.size Q N q ∧ PartN N q ∧ ∀ i j, i < N → j < N → sameB q i j → sameB p i j
set_option maxRecDepth 100000 in
set_option maxHeartbeats 12800000 in
theorem l15Refine_calls {w : World} {N ini : Nat} {A : Option Addr} {n : Nat} {B : Option Addr} {m : Nat} {ls : List ByteArray} {es : List Ed} (h : SysA w N ini A n B m ls es) (c d bx : Nat) (hbx : LtsBox w bx (N : Int) (ini : Int) A n c B m d) (P : Option Addr) (cP : Nat) (p : List Int) (hP : SlI w 0 w.heap.size P N p) (hp : ∀ x, x ∈ p → 0 ≤ x ∧ x ≤ 1000) (dv : Bool) :
  Calls Tryz.prog 164 #[.pointer (some ⟨bx, 0, none⟩), .slice P N cP, .bool dv] w fun e w' => ∃ Q cQ, e = .returned (.slice Q N cQ) ∧ FineTo w w' Q N p ∧ Below w.heap.size w w' := by
 have hER := hide elem_rowI
 have hE := hide elem_int64
 have hpl := hP.len
 have hmn := h.many
 obtain ⟨⟨hN1, hN2⟩, hini⟩ := h.bounds
 have hthr := hide h.three
 have hAll : ∀ wx, Below w.heap.size w wx → SysA wx N ini A n B m ls es ∧ LtsBox wx bx (N : Int) (ini : Int) A n c B m d ∧ SlI wx 0 w.heap.size P N p := fun wx hx => ⟨h.below hx (Nat.le_refl _), hbx.below hx hbx.lt, hP.below hx (.inl (Nat.le_refl _))⟩
 replace hAll := hide hAll
 have b0 := hbx.c0
 have q := hide (l15Diverge_calls h c d bx hbx P cP p hP)
 clear h hbx hP b0
 go_enter Tryz.func164, Tryz.ntmps164
 go_wp2_with fail
 refine q.out.mono ?_
 rintro e w2 ⟨bl, rfl, hM, hz2, hb2⟩
 obtain ⟨w3, hw3⟩ : ∃ w3, w3 = w2.alloc (.cells #[] 32) := ⟨_, rfl⟩
 have hb23 : Below w2.heap.size w2 w3 := by rw [hw3]; exact (Below.refl _ _).alloc (Nat.le_refl _) _
 have hM3 := hide (hM.below hz2 hb23)
 have hb3 := hide (hb2.trans (hb23.mono hb2.size))
 have hz3 : w2.heap.size ≤ w3.heap.size := hb23.size
 have hg0 : Hid (GrowH w3 w2.heap.size (some ⟨w2.heap.size, 0, none⟩) 0 0 []) := by show GrowH _ _ _ _ _ _; rw [hw3]; exact GrowH.made w2
 clear q hM hb2 hb23
 go_upto_region 3 with fail
 rw [← show w3 = _ from hw3]
 replace hw3 := hide hw3
 go_wp2_with fail
 go_loopw [8, 9] (fun v8 v9 wr => ∃ (k c5 : Nat) (A5 : Option Addr) (R : List (Hd × List Int)), k ≤ N ∧ v9 = .int .i64 (k : Nat) ∧ v8 = .slice A5 k c5 ∧ Hid (GrowH wr w2.heap.size A5 k c5 R) ∧ Hid (∀ r, r ∈ R → r.1.2.1 ≤ 1000) ∧ Hid (MkB w wr N bl) ∧ w2.heap.size ≤ wr.heap.size ∧ Hid (Below w.heap.size w wr)) (fun _ v _ => N - (intOf v).toNat)
 case atStart => exact ⟨0, 0, _, _, Nat.zero_le _, rfl, rfl, hg0.out, fun r hr => (List.not_mem_nil hr).elim, hM3.out, hz3, hb3.out⟩
 case round =>
  clear hg0 hb3 hM3
  obtain ⟨k, c5, A5, R, hk, rfl, rfl, hG, hRs, hM, hz2r, hb⟩ := hrel
  have b0 := (hAll.out wr hb.out).2.1.c0
  by_cases hlt : k < N
  ·obtain ⟨hSy, hBr, hPr⟩ := hAll.out wr hb.out
   have k0 : (0 : Int) ≤ (k : Int) := by omega
   have k1 : (k : Int) < (N : Int) := by omega
   have qO := hide (l15Offers_calls hSy c d bx hBr P cP p hPr.here' hp k hlt)
   clear hSy hBr hPr
   go_upto_region 6 with fail
   go_wp2_with fail
   refine qO.out.mono ?_
   rintro e w4 ⟨A4, n4, c4, l4, rfl, hO4, hn4, hb4⟩
   have hM4 : Hid (MkB w w4 N bl) := ⟨hM.out.1.below hb4 (.inl (by omega)), hM.out.2⟩
   obtain ⟨m1, -⟩ := hM4.out.at_ hlt
   obtain ⟨x, hx⟩ : ∃ x, x = inS bl k := ⟨_, rfl⟩
   rw [← hx] at m1
   have hs4 := hide (hO4.sl flat_iv)
   replace hx := hide hx
   replace hO4 := hide hO4
   replace hb4 := hide hb4
   clear qO
   by_cases hdx : dv = true ∧ x = true
   ·obtain ⟨rfl, rfl⟩ := hdx
    have hz4 := hb4.out.size
    have hbL := hide (hb4.out.trans (((Below.refl w4.heap.size w4).alloc (Nat.le_refl _) (.cells #[.int .i64 (-1)] 2)).mono hz4))
    have hOL := hide (hO4.out.alloc (.cells #[.int .i64 (-1)] 2))
    have hzL : wr.heap.size ≤ (w4.alloc (.cells #[.int .i64 (-1)] 2)).heap.size := by rw [World.size_alloc]; omega
    go_upto_region 8 with fail
    clear m1
    go_upto_region 9 with (first | (at_builtin; (with_reducible refine wpList_app rfl (.tmp 39) (.tmp 40) rfl hE.out flat_iv rfl hOL.out rfl (Sl.lit1' w4 2 (-1 : Int) _ rfl 1 _ ?c0) ?c1 hzL ?_); rotate_right; intro A7 c7 w7 hown7 hgr7 hb7 hat7))
    case c0 => rfl
    case c1 => omega
    have hs7 := hide (hown7.sl flat_iv)
    have hbX := hide (hbL.out.trans hb7)
    replace hown7 := hide hown7
    replace hgr7 := hide hgr7
    replace hat7 := hide hat7
    replace hb7 := hide hb7
    have hzX := hbX.out.size
    have hbA : Below w7.heap.size w7 (w7.alloc (.cells #[.slice A7 (n4 + 1) c7] 32)) := (Below.refl _ _).alloc (Nat.le_refl _) _
    have hGA := hide ((hG.out.below hbX.out).below hbA)
    have hza : w2.heap.size ≤ (w7.alloc (.cells #[.slice A7 (n4 + 1) c7] 32)).heap.size := by rw [World.size_alloc]; omega
    have hOa := hide hGA.out.own
    have hown : Hid (∀ b off, 0 < (n4 + 1) → A7 = some ⟨b, off, none⟩ → (Value.slice A5 k c5).ownBlock ≠ some b) := fun b off hn e e2 => by
     obtain ⟨b', o', e', g1, -⟩ := hs7.out.at_ hn
     rw [e] at e'
     cases e'
     have := (hG.out.own.lt _ e2).2
     omega
    have hsA := hide ((hs7.out.below hbA (.inr (Nat.le_refl _))).more hz2r hbA.size)
    have hbF := hide ((hbX.out.mono hz2r).trans (hbA.mono (by omega)))
    clear hbA b0
    go_wp2_with (first | (at_builtin; (with_reducible refine wpList_app rfl (.tmp 42) (.tmp 44) rfl hER.out flat_sv rfl hOa.out rfl (Sl.lit1' w7 32 ((A7, (n4 + 1), c7) : Hd) _ rfl 1 _ ?c0) ?c1 hza ?_); rotate_right; intro A6 c6 w6 hown6 hgr6 hb6 hat6))
    case c0 => rfl
    case c1 => omega
    have hG6 := hide (hGA.out.push hsA.out hown.out hown6 hgr6 hat6)
    have hb6' := hide (hbF.out.trans hb6)
    have hb6w := hide (hb.out.trans (hb6'.out.mono (show w.heap.size ≤ w2.heap.size by omega)))
    have hM6 : Hid (MkB w w6 N bl) := ⟨hM.out.1.below hb6'.out (.inl hz2), hM.out.2⟩
    have hR6 : Hid (∀ r, r ∈ R ++ [((A7, (n4 + 1), c7), (l4 ++ [-1]))] → r.1.2.1 ≤ 1000) := fun r hr => by
     rcases List.mem_append.1 hr with hr | hr
     ·exact hRs.out r hr
     ·obtain rfl := List.mem_singleton.1 hr
      show (n4 + 1) ≤ 1000
      omega
    have hz26 : w2.heap.size ≤ w6.heap.size := Nat.le_trans hz2r hb6'.out.size
    go_wp2_with fail
    go_roundw
    case rel => exact ⟨k + 1, c6, A6, _, by omega, by go_num, rfl, hG6.out, hR6.out, hM6.out, hz26, hb6w.out⟩
    case measure => simp [intOf]; omega
   ·cases dv with
    | false =>
     have hzX := hb4.out.size
     have hbA : Below w4.heap.size w4 (w4.alloc (.cells #[.slice A4 n4 c4] 32)) := (Below.refl _ _).alloc (Nat.le_refl _) _
     have hGA := hide ((hG.out.below hb4.out).below hbA)
     have hza : w2.heap.size ≤ (w4.alloc (.cells #[.slice A4 n4 c4] 32)).heap.size := by rw [World.size_alloc]; omega
     have hOa := hide hGA.out.own
     have hown : Hid (∀ b off, 0 < n4 → A4 = some ⟨b, off, none⟩ → (Value.slice A5 k c5).ownBlock ≠ some b) := fun b off hn e e2 => by
      obtain ⟨b', o', e', g1, -⟩ := hs4.out.at_ hn
      rw [e] at e'
      cases e'
      have := (hG.out.own.lt _ e2).2
      omega
     have hsA := hide ((hs4.out.below hbA (.inr (Nat.le_refl _))).more hz2r hbA.size)
     have hbF := hide ((hb4.out.mono hz2r).trans (hbA.mono (by omega)))
     clear hbA b0
     go_wp2_with (first | (at_builtin; (with_reducible refine wpList_app rfl (.tmp 42) (.tmp 44) rfl hER.out flat_sv rfl hOa.out rfl (Sl.lit1' w4 32 ((A4, n4, c4) : Hd) _ rfl 1 _ ?c0) ?c1 hza ?_); rotate_right; intro A6 c6 w6 hown6 hgr6 hb6 hat6))
     case c0 => rfl
     case c1 => omega
     have hG6 := hide (hGA.out.push hsA.out hown.out hown6 hgr6 hat6)
     have hb6' := hide (hbF.out.trans hb6)
     have hb6w := hide (hb.out.trans (hb6'.out.mono (show w.heap.size ≤ w2.heap.size by omega)))
     have hM6 : Hid (MkB w w6 N bl) := ⟨hM.out.1.below hb6'.out (.inl hz2), hM.out.2⟩
     have hR6 : Hid (∀ r, r ∈ R ++ [((A4, n4, c4), l4)] → r.1.2.1 ≤ 1000) := fun r hr => by
      rcases List.mem_append.1 hr with hr | hr
      ·exact hRs.out r hr
      ·obtain rfl := List.mem_singleton.1 hr
       show n4 ≤ 1000
       omega
     have hz26 : w2.heap.size ≤ w6.heap.size := Nat.le_trans hz2r hb6'.out.size
     go_wp2_with fail
     go_roundw
     case rel => exact ⟨k + 1, c6, A6, _, by omega, by go_num, rfl, hG6.out, hR6.out, hM6.out, hz26, hb6w.out⟩
     case measure => simp [intOf]; omega
    | true =>
     cases x with
     | true => exact absurd ⟨rfl, rfl⟩ hdx
     | false =>
      have hzX := hb4.out.size
      have hbA : Below w4.heap.size w4 (w4.alloc (.cells #[.slice A4 n4 c4] 32)) := (Below.refl _ _).alloc (Nat.le_refl _) _
      have hGA := hide ((hG.out.below hb4.out).below hbA)
      have hza : w2.heap.size ≤ (w4.alloc (.cells #[.slice A4 n4 c4] 32)).heap.size := by rw [World.size_alloc]; omega
      have hOa := hide hGA.out.own
      have hown : Hid (∀ b off, 0 < n4 → A4 = some ⟨b, off, none⟩ → (Value.slice A5 k c5).ownBlock ≠ some b) := fun b off hn e e2 => by
       obtain ⟨b', o', e', g1, -⟩ := hs4.out.at_ hn
       rw [e] at e'
       cases e'
       have := (hG.out.own.lt _ e2).2
       omega
      have hsA := hide ((hs4.out.below hbA (.inr (Nat.le_refl _))).more hz2r hbA.size)
      have hbF := hide ((hb4.out.mono hz2r).trans (hbA.mono (by omega)))
      clear hbA b0
      go_wp2_with (first | (at_builtin; (with_reducible refine wpList_app rfl (.tmp 42) (.tmp 44) rfl hER.out flat_sv rfl hOa.out rfl (Sl.lit1' w4 32 ((A4, n4, c4) : Hd) _ rfl 1 _ ?c0) ?c1 hza ?_); rotate_right; intro A6 c6 w6 hown6 hgr6 hb6 hat6))
      case c0 => rfl
      case c1 => omega
      have hG6 := hide (hGA.out.push hsA.out hown.out hown6 hgr6 hat6)
      have hb6' := hide (hbF.out.trans hb6)
      have hb6w := hide (hb.out.trans (hb6'.out.mono (show w.heap.size ≤ w2.heap.size by omega)))
      have hM6 : Hid (MkB w w6 N bl) := ⟨hM.out.1.below hb6'.out (.inl hz2), hM.out.2⟩
      have hR6 : Hid (∀ r, r ∈ R ++ [((A4, n4, c4), l4)] → r.1.2.1 ≤ 1000) := fun r hr => by
       rcases List.mem_append.1 hr with hr | hr
       ·exact hRs.out r hr
       ·obtain rfl := List.mem_singleton.1 hr
        show n4 ≤ 1000
        omega
      have hz26 : w2.heap.size ≤ w6.heap.size := Nat.le_trans hz2r hb6'.out.size
      go_wp2_with fail
      go_roundw
      case rel => exact ⟨k + 1, c6, A6, _, by omega, by go_num, rfl, hG6.out, hR6.out, hM6.out, hz26, hb6w.out⟩
      case measure => simp [intOf]; omega
  ·have k1 : ¬ (k : Int) < (N : Int) := by omega
   obtain ⟨f, hRf⟩ : ∃ f, RowsTo f k R := rows_fun hG.out hRs.out
   replace hRs := hide hRf
   clear hRf
   obtain rfl : k = N := by omega
   obtain ⟨N, rfl⟩ : ∃ N, N = k := ⟨_, rfl⟩
   obtain ⟨wK, rfl⟩ : ∃ wK : World, wK = wr := ⟨_, rfl⟩
   have hPK := hide (hAll.out wK hb.out).2.2
   have hGK := hG
   have hRK := hRs
   have hbK := hb
   have hzK := hbK.out.size
   obtain ⟨RK, rfl⟩ : ∃ RK, RK = R := ⟨_, rfl⟩
   obtain ⟨AK, rfl⟩ : ∃ AK, AK = A5 := ⟨_, rfl⟩
   obtain ⟨cK, rfl⟩ : ∃ cK, cK = c5 := ⟨_, rfl⟩
   obtain ⟨w8, hw8⟩ : ∃ w8, w8 = wK.alloc (.cells #[] 2) := ⟨_, rfl⟩
   have hO8 : Hid (Own 1 iv w8 wK.heap.size 2 (some ⟨wK.heap.size, 0, none⟩) 0 0 []) := by show Own _ _ _ _ _ _ _ _ _; rw [hw8]; exact Own.made wK _ (Nat.le_refl _)
   have hb8 : Hid (Below wK.heap.size wK w8) := by show Below _ _ _; rw [hw8]; exact (Below.refl _ _).alloc (Nat.le_refl _) _
   have hrp := hide (keyQ_part N p f)
   have hkey : Hid (∀ i j, i < N → j < N → (sameB (keyQ N p f) i j ↔ p[i]? = p[j]? ∧ f i = f j)) := fun i j hi hj => keyQ_key hi hj
   obtain ⟨r, hr⟩ : ∃ r, r = keyQ N p f := ⟨_, rfl⟩
   rw [← hr] at hrp hkey
   replace hr := hide hr
   clear hb hG hRs
   go_upto_region 11 with fail
   rw [← show w8 = _ from hw8]
   replace hw8 := hide hw8
   clear b0
   go_wp2_with fail
   go_loopw [11, 12, 13] (fun v7 v8 v9 wr => ∃ (k c7 : Nat) (A7 : Option Addr), k ≤ N ∧ v9 = .int .i64 (k : Nat) ∧ v8 = .int .i64 (cntB r k : Nat) ∧ v7 = .slice A7 k c7 ∧ Hid (Own 1 iv wr wK.heap.size 2 A7 k c7 (r.take k)) ∧ Hid (Below wK.heap.size wK wr)) (fun _ _ v _ => N - (intOf v).toNat)
   case atStart => exact ⟨0, 0, _, Nat.zero_le _, rfl, rfl, rfl, hO8.out, hb8.out⟩
   case round =>
    clear hO8 hb8
    obtain ⟨k, c7, A7, hk, rfl, rfl, rfl, hO7, hb⟩ := hrel
    have hpl2 := hide hpl
    by_cases hlt : k < N
    ·have k0 : (0 : Int) ≤ (k : Int) := by omega
     have k1 : (k : Int) < (N : Int) := by omega
     obtain ⟨x, hx⟩ : ∃ x, r[k]? = some x := ⟨_, List.getElem?_eq_getElem (by rw [hrp.out.len]; exact hlt)⟩
     have hnew := hide (new_or hrp.out.norm hx)
     have hcb : cntB r k ≤ k := cntB_le r k
     replace hx := hide hx
     obtain ⟨wO, rfl⟩ : ∃ wO : World, wO = wr := ⟨_, rfl⟩
     have hbO := hb
     have hOO := hO7
     clear hb hO7
     go_wp2_with fail
     go_loopw [14, 15] (fun v10 v11 wr => ∃ j : Nat, j ≤ k ∧ v11 = .int .i64 (j : Nat) ∧ Hid (Below wO.heap.size wO wr) ∧ Hid (FndR r x k j v10)) (fun _ v _ => k - (intOf v).toNat)
     case atStart => exact ⟨0, Nat.zero_le _, rfl, Below.refl _ _, .inl ⟨rfl, fun i hi => absurd hi (Nat.not_lt_zero i)⟩⟩
     case round =>
      obtain ⟨j, hj, rfl, hb2, hF⟩ := hrel
      have j0 : (0 : Int) ≤ (j : Int) := by omega
      have hbW := hide (hbO.out.trans (hb2.out.mono hbO.out.size))
      have hO9 := hide (hOO.out.below hb2.out (Nat.le_refl _))
      rcases hF.out with ⟨rfl, hF2⟩ | ⟨rfl, hx0, hF2⟩
      ·replace hF2 := hide hF2
       by_cases hjk : j < k
       ·have j1 : (j : Int) < (k : Int) := by omega
        have j2 : (j : Int) < (N : Int) := by omega
        have hP2 := hPK.out.below hbW.out (.inr (Nat.le_refl _))
        have hG2 := hGK.out.below hbW.out
        obtain ⟨gP, oP, pj, e1, -, -, hgP, hpj, cpj, -⟩ := SlI.get hP2 (show j < N by omega)
        obtain ⟨gP2, oP2, pk, e2, -, -, -, hpk, cpk, -⟩ := SlI.get hP2 hlt
        subst e1
        cases e2
        obtain ⟨gR, oR, Aj, nj, cj, sj, e3, -, hgR, hRj, crj, hsj, -⟩ := hG2.get (show j < N by omega)
        obtain ⟨gR2, oR2, Ak, nk, ck, sk, e4, -, -, hRk, crk, hsk, -⟩ := hG2.get hlt
        subst e3
        cases e4
        have hzW := hbW.out.size
        have hnj := hRK.out.2 _ (List.mem_of_getElem? hRj)
        have hnk := hRK.out.2 _ (List.mem_of_getElem? hRk)
        have vsj := hRK.out.get (show j < N by omega) hRj
        have vsk := hRK.out.get hlt hRk
        (try dsimp only at hnj hnk vsj vsk)
        obtain ⟨wD, hwD⟩ : ∃ wD, wD = wr.drew := ⟨_, rfl⟩
        have hbD : Below wr.heap.size wr wD := by rw [hwD]; exact (Below.refl _ _).drew
        have hq := hide (l00Same_calls Aj Ak nj nk cj ck sj sk wD _ _ _ _ (hsj.below hbD (.inr (Nat.le_refl _))) (hsk.below hbD (.inr (Nat.le_refl _))) (by omega) (by omega))
        have hSS : Hid (∀ wx, Below wD.heap.size wD wx → wx.cell? ⟨gP, oP + j, none⟩ = some (.int .i64 pj) ∧ wx.cell? ⟨gP, oP + k, none⟩ = some (.int .i64 pk) ∧ wx.cell? ⟨gR, oR + j, none⟩ = some (.slice Aj nj cj) ∧ wx.cell? ⟨gR, oR + k, none⟩ = some (.slice Ak nk ck)) := fun wx hx2 => by
         have hbx := hbD.trans (hx2.mono hbD.size)
         exact ⟨(hbx.cell (p := ⟨gP, oP + j, none⟩) hgP).trans cpj, (hbx.cell (p := ⟨gP, oP + k, none⟩) hgP).trans cpk, (hbx.cell (p := ⟨gR, oR + j, none⟩) hgR).trans crj, (hbx.cell (p := ⟨gR, oR + k, none⟩) hgR).trans crk⟩
        have hsame : Hid (sameB r j k ↔ pj = pk ∧ sj = sk) := by
         have := hkey.out j k (by omega) hlt
         rw [hpj, hpk, ← vsj, ← vsk] at this
         show _ ↔ _
         rw [this]
         exact and_congr_left fun _ => ⟨fun h => Option.some.inj h, fun h => h ▸ rfl⟩
        have hjx : Hid (r[j]? = some x ↔ sameB r j k) := by
         show _ ↔ _
         unfold sameB
         rw [hx.out]
        replace hbD := hide hbD
        replace hwD := hide hwD
        replace hpj := hide hpj
        replace hpk := hide hpk
        replace hRj := hide hRj
        replace hRk := hide hRk
        replace vsj := hide vsj
        replace vsk := hide vsk
        clear hP2 hG2 hsj hsk cpj cpk crj crk
        by_cases hpp : pj = pk
        ·subst hpp
         have g1 : (pj == pj) = true := by simp
         by_cases hss : sj = sk
         ·have hyes : Hid (r[j]? = some x) := hjx.out.2 (hsame.out.2 ⟨rfl, hss⟩)
          rw [decide_eq_true hss] at hq
          go_upto_region 19 with fail
          refine lateT_begin (S := fun w' => w'.cell? ⟨gP, oP + j, none⟩ = some (.int .i64 pj) ∧ w'.cell? ⟨gP, oP + k, none⟩ = some (.int .i64 pj) ∧ w'.cell? ⟨gR, oR + j, none⟩ = some (.slice Aj nj cj) ∧ w'.cell? ⟨gR, oR + k, none⟩ = some (.slice Ak nk ck)) (st := 19) (by kernel_rfl) ?_
          rw [← show wD = _ from hwD.out]
          have hS0 : (fun w' : World => w'.cell? ⟨gP, oP + j, none⟩ = some (.int .i64 pj) ∧ w'.cell? ⟨gP, oP + k, none⟩ = some (.int .i64 pj) ∧ w'.cell? ⟨gR, oR + j, none⟩ = some (.slice Aj nj cj) ∧ w'.cell? ⟨gR, oR + k, none⟩ = some (.slice Ak nk ck)) wD := hSS.out wD (Below.refl _ _)
          refine tkA ?_ 0 [2,3,8,9,19] rfl (Or.inl ⟨by kernel_rfl, ?hy⟩) hS0 ?_
          case hy => intro w hSw; (try dsimp only at hSw); go_simp <;> with_reducible rfl
          (try simp only [Act.put, sA, sB, sC])
          refine tkA ?_ 1 [2,3,8,9,19] rfl (Or.inl ⟨by kernel_rfl, ?hy⟩) hS0 ?_
          case hy => intro w hSw; (try dsimp only at hSw); go_simp <;> with_reducible rfl
          (try simp only [Act.put, sA, sB, sC])
          refine tkA ?_ 2 [3,8,9,19] rfl (Or.inl ⟨by kernel_rfl, ?hy⟩) hS0 ?_
          case hy => intro w hSw; (try dsimp only at hSw); go_simp <;> with_reducible rfl
          (try simp only [Act.put, sA, sB, sC])
          refine tkA ?_ 3 [8,9,19] rfl (Or.inl ⟨by kernel_rfl, ?hy⟩) hS0 ?_
          case hy => intro w hSw; (try dsimp only at hSw); go_simp <;> with_reducible rfl
          (try simp only [Act.put, sA, sB, sC])
          refine tkA ?_ 4 [6,7,8,9,19] rfl (Or.inl ⟨by kernel_rfl, ?hy⟩) hS0 ?_
          case hy => intro w hSw; (try dsimp only at hSw); go_simp <;> with_reducible rfl
          (try simp only [Act.put, sA, sB, sC])
          refine tkA ?_ 5 [6,7,8,9,19] rfl (Or.inl ⟨by kernel_rfl, ?hy⟩) hS0 ?_
          case hy => intro w hSw; (try dsimp only at hSw); go_simp <;> with_reducible rfl
          (try simp only [Act.put, sA, sB, sC])
          refine tkA ?_ 6 [7,8,9,19] rfl (Or.inl ⟨by kernel_rfl, ?hy⟩) hS0 ?_
          case hy => intro w hSw; (try dsimp only at hSw); go_simp <;> with_reducible rfl
          (try simp only [Act.put, sA, sB, sC])
          refine tkA ?_ 7 [8,9,19] rfl (Or.inl ⟨by kernel_rfl, ?hy⟩) hS0 ?_
          case hy => intro w hSw; (try dsimp only at hSw); go_simp <;> with_reducible rfl
          (try simp only [Act.put, sA, sB, sC])
          refine tkA ?_ 8 [9,19] rfl (Or.inl ⟨by kernel_rfl, ?hy⟩) hS0 ?_
          case hy => intro w hSw; (try dsimp only at hSw); go_simp <;> with_reducible rfl
          (try simp only [Act.put, sA, sB, sC])
          refine tkA ?_ 9 [19] rfl (Or.inl ⟨by kernel_rfl, ?hy⟩) hS0 ?_
          case hy => intro w hSw; (try dsimp only at hSw); go_simp <;> with_reducible rfl
          (try simp only [Act.put, sA, sB, sC])
          refine tkA ?_ 10 [12,13,18,19] rfl (Or.inl ⟨by kernel_rfl, ?hy⟩) hS0 ?_
          case hy => intro w hSw; (try dsimp only at hSw); go_simp <;> with_reducible rfl
          (try simp only [Act.put, sA, sB, sC])
          refine tkA ?_ 11 [12,13,18,19] rfl (Or.inl ⟨by kernel_rfl, ?hy⟩) hS0 ?_
          case hy => intro w hSw; (try dsimp only at hSw); go_simp <;> with_reducible rfl
          (try simp only [Act.put, sA, sB, sC])
          refine tkA ?_ 12 [13,18,19] rfl (Or.inl ⟨by kernel_rfl, ?hy⟩) hS0 ?_
          case hy => intro w hSw; (try dsimp only at hSw); go_simp <;> with_reducible rfl
          (try simp only [Act.put, sA, sB, sC])
          refine tkA ?_ 13 [18,19] rfl (Or.inl ⟨by kernel_rfl, ?hy⟩) hS0 ?_
          case hy => intro w hSw; (try dsimp only at hSw); go_simp <;> with_reducible rfl
          (try simp only [Act.put, sA, sB, sC])
          refine tkA ?_ 14 [16,17,18,19] rfl (Or.inl ⟨by kernel_rfl, ?hy⟩) hS0 ?_
          case hy => intro w hSw; (try dsimp only at hSw); go_simp <;> with_reducible rfl
          (try simp only [Act.put, sA, sB, sC])
          refine tkA ?_ 15 [16,17,18,19] rfl (Or.inl ⟨by kernel_rfl, ?hy⟩) hS0 ?_
          case hy => intro w hSw; (try dsimp only at hSw); go_simp <;> with_reducible rfl
          (try simp only [Act.put, sA, sB, sC])
          refine tkA ?_ 16 [17,18,19] rfl (Or.inl ⟨by kernel_rfl, ?hy⟩) hS0 ?_
          case hy => intro w hSw; (try dsimp only at hSw); go_simp <;> with_reducible rfl
          (try simp only [Act.put, sA, sB, sC])
          refine tkA ?_ 17 [18,19] rfl (Or.inl ⟨by kernel_rfl, ?hy⟩) hS0 ?_
          case hy => intro w hSw; (try dsimp only at hSw); go_simp <;> with_reducible rfl
          (try simp only [Act.put, sA, sB, sC])
          refine lateT_step (i := 18) (by kernel_rfl) rfl (fun K hK => ?_)
          (try go_simp)
          go_at_call 165
          (with_reducible refine hq.out.mono ?_)
          rintro e w7 ⟨rfl, hb7⟩
          (try go_wp2_with fail)
          have hS1 := hSS.out w7 hb7
          refine hK.out _ _ (fun _ => hS1) ?_
          clear hK K
          (try simp only [Act.put, sA, sB, sC])
          refine lateT_step (i := 19) (by kernel_rfl) rfl (fun K hK => ?_)
          go_simp
          refine hK.out _ _ (fun h => absurd rfl h) ?_
          clear hK K
          (try simp only [Act.put, sA, sB, sC])
          refine lateT_done (by kernel_rfl) ?_ _
          have hb9 := hide (hb2.out.trans ((hbD.out.trans (hb7.mono hbD.out.size)).mono hb2.out.size))
          obtain ⟨gO, oO, hOv⟩ : ∃ gO oO, A7 = some ⟨gO, oO, none⟩ ∧ gO < wO.heap.size ∧ wO.cell? ⟨gO, oO + j, none⟩ = some (.int .i64 x) := by
           obtain ⟨b5, o5, v5, e5, -, -, g5, hv5, c5, -⟩ := SlI.get (hOO.out.sl flat_iv) hjk
           rw [List.getElem?_take_of_lt hjk, hyes.out] at hv5
           cases hv5
           exact ⟨b5, o5, e5, g5, c5⟩
          obtain ⟨rfl, hgO, cO⟩ := hOv
          have cO7 := (hb9.out.cell (p := ⟨gO, oO + j, none⟩) hgO).trans cO
          have hx0 : Hid (0 ≤ x) := (part_lt hrp.out (List.mem_of_getElem? hx.out)).1
          clear cO
          go_wp2_with fail
          go_roundw
          case rel => exact ⟨j + 1, by omega, by go_num, hb9.out, .inr ⟨rfl, hx0.out, j, hjk, hyes.out⟩⟩
          case measure => simp [intOf]; omega
         ·have hno : Hid (¬ r[j]? = some x) := fun h => hss (hsame.out.1 (hjx.out.1 h)).2
          rw [decide_eq_false hss] at hq
          go_upto_region 19 with fail
          refine lateT_begin (S := fun w' => w'.cell? ⟨gP, oP + j, none⟩ = some (.int .i64 pj) ∧ w'.cell? ⟨gP, oP + k, none⟩ = some (.int .i64 pj) ∧ w'.cell? ⟨gR, oR + j, none⟩ = some (.slice Aj nj cj) ∧ w'.cell? ⟨gR, oR + k, none⟩ = some (.slice Ak nk ck)) (st := 19) (by kernel_rfl) ?_
          rw [← show wD = _ from hwD.out]
          have hS0 : (fun w' : World => w'.cell? ⟨gP, oP + j, none⟩ = some (.int .i64 pj) ∧ w'.cell? ⟨gP, oP + k, none⟩ = some (.int .i64 pj) ∧ w'.cell? ⟨gR, oR + j, none⟩ = some (.slice Aj nj cj) ∧ w'.cell? ⟨gR, oR + k, none⟩ = some (.slice Ak nk ck)) wD := hSS.out wD (Below.refl _ _)
          refine tkA ?_ 0 [2,3,8,9,19] rfl (Or.inl ⟨by kernel_rfl, ?hy⟩) hS0 ?_
          case hy => intro w hSw; (try dsimp only at hSw); go_simp <;> with_reducible rfl
          (try simp only [Act.put, sA, sB, sC])
          refine tkA ?_ 1 [2,3,8,9,19] rfl (Or.inl ⟨by kernel_rfl, ?hy⟩) hS0 ?_
          case hy => intro w hSw; (try dsimp only at hSw); go_simp <;> with_reducible rfl
          (try simp only [Act.put, sA, sB, sC])
          refine tkA ?_ 2 [3,8,9,19] rfl (Or.inl ⟨by kernel_rfl, ?hy⟩) hS0 ?_
          case hy => intro w hSw; (try dsimp only at hSw); go_simp <;> with_reducible rfl
          (try simp only [Act.put, sA, sB, sC])
          refine tkA ?_ 3 [8,9,19] rfl (Or.inl ⟨by kernel_rfl, ?hy⟩) hS0 ?_
          case hy => intro w hSw; (try dsimp only at hSw); go_simp <;> with_reducible rfl
          (try simp only [Act.put, sA, sB, sC])
          refine tkA ?_ 4 [6,7,8,9,19] rfl (Or.inl ⟨by kernel_rfl, ?hy⟩) hS0 ?_
          case hy => intro w hSw; (try dsimp only at hSw); go_simp <;> with_reducible rfl
          (try simp only [Act.put, sA, sB, sC])
          refine tkA ?_ 5 [6,7,8,9,19] rfl (Or.inl ⟨by kernel_rfl, ?hy⟩) hS0 ?_
          case hy => intro w hSw; (try dsimp only at hSw); go_simp <;> with_reducible rfl
          (try simp only [Act.put, sA, sB, sC])
          refine tkA ?_ 6 [7,8,9,19] rfl (Or.inl ⟨by kernel_rfl, ?hy⟩) hS0 ?_
          case hy => intro w hSw; (try dsimp only at hSw); go_simp <;> with_reducible rfl
          (try simp only [Act.put, sA, sB, sC])
          refine tkA ?_ 7 [8,9,19] rfl (Or.inl ⟨by kernel_rfl, ?hy⟩) hS0 ?_
          case hy => intro w hSw; (try dsimp only at hSw); go_simp <;> with_reducible rfl
          (try simp only [Act.put, sA, sB, sC])
          refine tkA ?_ 8 [9,19] rfl (Or.inl ⟨by kernel_rfl, ?hy⟩) hS0 ?_
          case hy => intro w hSw; (try dsimp only at hSw); go_simp <;> with_reducible rfl
          (try simp only [Act.put, sA, sB, sC])
          refine tkA ?_ 9 [19] rfl (Or.inl ⟨by kernel_rfl, ?hy⟩) hS0 ?_
          case hy => intro w hSw; (try dsimp only at hSw); go_simp <;> with_reducible rfl
          (try simp only [Act.put, sA, sB, sC])
          refine tkA ?_ 10 [12,13,18,19] rfl (Or.inl ⟨by kernel_rfl, ?hy⟩) hS0 ?_
          case hy => intro w hSw; (try dsimp only at hSw); go_simp <;> with_reducible rfl
          (try simp only [Act.put, sA, sB, sC])
          refine tkA ?_ 11 [12,13,18,19] rfl (Or.inl ⟨by kernel_rfl, ?hy⟩) hS0 ?_
          case hy => intro w hSw; (try dsimp only at hSw); go_simp <;> with_reducible rfl
          (try simp only [Act.put, sA, sB, sC])
          refine tkA ?_ 12 [13,18,19] rfl (Or.inl ⟨by kernel_rfl, ?hy⟩) hS0 ?_
          case hy => intro w hSw; (try dsimp only at hSw); go_simp <;> with_reducible rfl
          (try simp only [Act.put, sA, sB, sC])
          refine tkA ?_ 13 [18,19] rfl (Or.inl ⟨by kernel_rfl, ?hy⟩) hS0 ?_
          case hy => intro w hSw; (try dsimp only at hSw); go_simp <;> with_reducible rfl
          (try simp only [Act.put, sA, sB, sC])
          refine tkA ?_ 14 [16,17,18,19] rfl (Or.inl ⟨by kernel_rfl, ?hy⟩) hS0 ?_
          case hy => intro w hSw; (try dsimp only at hSw); go_simp <;> with_reducible rfl
          (try simp only [Act.put, sA, sB, sC])
          refine tkA ?_ 15 [16,17,18,19] rfl (Or.inl ⟨by kernel_rfl, ?hy⟩) hS0 ?_
          case hy => intro w hSw; (try dsimp only at hSw); go_simp <;> with_reducible rfl
          (try simp only [Act.put, sA, sB, sC])
          refine tkA ?_ 16 [17,18,19] rfl (Or.inl ⟨by kernel_rfl, ?hy⟩) hS0 ?_
          case hy => intro w hSw; (try dsimp only at hSw); go_simp <;> with_reducible rfl
          (try simp only [Act.put, sA, sB, sC])
          refine tkA ?_ 17 [18,19] rfl (Or.inl ⟨by kernel_rfl, ?hy⟩) hS0 ?_
          case hy => intro w hSw; (try dsimp only at hSw); go_simp <;> with_reducible rfl
          (try simp only [Act.put, sA, sB, sC])
          refine lateT_step (i := 18) (by kernel_rfl) rfl (fun K hK => ?_)
          (try go_simp)
          go_at_call 165
          (with_reducible refine hq.out.mono ?_)
          rintro e w7 ⟨rfl, hb7⟩
          (try go_wp2_with fail)
          have hS1 := hSS.out w7 hb7
          refine hK.out _ _ (fun _ => hS1) ?_
          clear hK K
          (try simp only [Act.put, sA, sB, sC])
          refine lateT_step (i := 19) (by kernel_rfl) rfl (fun K hK => ?_)
          go_simp
          refine hK.out _ _ (fun h => absurd rfl h) ?_
          clear hK K
          (try simp only [Act.put, sA, sB, sC])
          refine lateT_done (by kernel_rfl) ?_ _
          have hb9 := hide (hb2.out.trans ((hbD.out.trans (hb7.mono hbD.out.size)).mono hb2.out.size))
          go_wp2_with fail
          go_roundw
          case rel => exact ⟨j + 1, by omega, by go_num, hb9.out, .inl ⟨rfl, fun i hi => by
           by_cases e : i < j
           ·exact hF2.out i e
           ·obtain rfl : i = j := by omega
            exact hno.out⟩⟩
          case measure => simp [intOf]; omega
        ·have g1 : (pj == pk) = false := beq_eq_false_iff_ne.2 hpp
         have hno : Hid (¬ r[j]? = some x) := fun h => hpp (hsame.out.1 (hjx.out.1 h)).1
         go_upto_region 19 with fail
         refine lateT_begin (S := fun w' => w'.cell? ⟨gP, oP + j, none⟩ = some (.int .i64 pj) ∧ w'.cell? ⟨gP, oP + k, none⟩ = some (.int .i64 pk) ∧ w'.cell? ⟨gR, oR + j, none⟩ = some (.slice Aj nj cj) ∧ w'.cell? ⟨gR, oR + k, none⟩ = some (.slice Ak nk ck)) (st := 19) (by kernel_rfl) ?_
         rw [← show wD = _ from hwD.out]
         have hS0 : (fun w' : World => w'.cell? ⟨gP, oP + j, none⟩ = some (.int .i64 pj) ∧ w'.cell? ⟨gP, oP + k, none⟩ = some (.int .i64 pk) ∧ w'.cell? ⟨gR, oR + j, none⟩ = some (.slice Aj nj cj) ∧ w'.cell? ⟨gR, oR + k, none⟩ = some (.slice Ak nk ck)) wD := hSS.out wD (Below.refl _ _)
         refine tkA ?_ 0 [2,3,8,9,19] rfl (Or.inl ⟨by kernel_rfl, ?hy⟩) hS0 ?_
         case hy => intro w hSw; (try dsimp only at hSw); go_simp <;> with_reducible rfl
         (try simp only [Act.put, sA, sB, sC])
         refine tkA ?_ 1 [2,3,8,9,19] rfl (Or.inl ⟨by kernel_rfl, ?hy⟩) hS0 ?_
         case hy => intro w hSw; (try dsimp only at hSw); go_simp <;> with_reducible rfl
         (try simp only [Act.put, sA, sB, sC])
         refine tkA ?_ 2 [3,8,9,19] rfl (Or.inl ⟨by kernel_rfl, ?hy⟩) hS0 ?_
         case hy => intro w hSw; (try dsimp only at hSw); go_simp <;> with_reducible rfl
         (try simp only [Act.put, sA, sB, sC])
         refine tkA ?_ 3 [8,9,19] rfl (Or.inl ⟨by kernel_rfl, ?hy⟩) hS0 ?_
         case hy => intro w hSw; (try dsimp only at hSw); go_simp <;> with_reducible rfl
         (try simp only [Act.put, sA, sB, sC])
         refine tkA ?_ 4 [6,7,8,9,19] rfl (Or.inl ⟨by kernel_rfl, ?hy⟩) hS0 ?_
         case hy => intro w hSw; (try dsimp only at hSw); go_simp <;> with_reducible rfl
         (try simp only [Act.put, sA, sB, sC])
         refine tkA ?_ 5 [6,7,8,9,19] rfl (Or.inl ⟨by kernel_rfl, ?hy⟩) hS0 ?_
         case hy => intro w hSw; (try dsimp only at hSw); go_simp <;> with_reducible rfl
         (try simp only [Act.put, sA, sB, sC])
         refine tkA ?_ 6 [7,8,9,19] rfl (Or.inl ⟨by kernel_rfl, ?hy⟩) hS0 ?_
         case hy => intro w hSw; (try dsimp only at hSw); go_simp <;> with_reducible rfl
         (try simp only [Act.put, sA, sB, sC])
         refine tkA ?_ 7 [8,9,19] rfl (Or.inl ⟨by kernel_rfl, ?hy⟩) hS0 ?_
         case hy => intro w hSw; (try dsimp only at hSw); go_simp <;> with_reducible rfl
         (try simp only [Act.put, sA, sB, sC])
         refine tkA ?_ 8 [9,19] rfl (Or.inl ⟨by kernel_rfl, ?hy⟩) hS0 ?_
         case hy => intro w hSw; (try dsimp only at hSw); go_simp <;> with_reducible rfl
         (try simp only [Act.put, sA, sB, sC])
         refine tkA ?_ 9 [19] rfl (Or.inl ⟨by kernel_rfl, ?hy⟩) hS0 ?_
         case hy => intro w hSw; (try dsimp only at hSw); go_simp <;> with_reducible rfl
         (try simp only [Act.put, sA, sB, sC])
         refine lateT_take (i := 10) (oi := _) (v := undef) [12, 13, 18, 19] rfl (by kernel_rfl) (by kernel_rfl) (by kernel_rfl) (by kernel_rfl) (fun _ _ _ h => h) (Or.inr ⟨by kernel_rfl, rfl⟩) hS0 ?_
         (try simp only [Act.put, sA, sB, sC])
         refine lateT_take (i := 11) (oi := _) (v := undef) [12, 13, 18, 19] rfl (by kernel_rfl) (by kernel_rfl) (by kernel_rfl) (by kernel_rfl) (fun _ _ _ h => h) (Or.inr ⟨by kernel_rfl, rfl⟩) hS0 ?_
         (try simp only [Act.put, sA, sB, sC])
         refine lateT_take (i := 12) (oi := _) (v := undef) [13, 18, 19] rfl (by kernel_rfl) (by kernel_rfl) (by kernel_rfl) (by kernel_rfl) (fun _ _ _ h => h) (Or.inr ⟨by kernel_rfl, rfl⟩) hS0 ?_
         (try simp only [Act.put, sA, sB, sC])
         refine lateT_take (i := 13) (oi := _) (v := undef) [18, 19] rfl (by kernel_rfl) (by kernel_rfl) (by kernel_rfl) (by kernel_rfl) (fun _ _ _ h => h) (Or.inr ⟨by kernel_rfl, rfl⟩) hS0 ?_
         (try simp only [Act.put, sA, sB, sC])
         refine lateT_take (i := 14) (oi := _) (v := undef) [16, 17, 18, 19] rfl (by kernel_rfl) (by kernel_rfl) (by kernel_rfl) (by kernel_rfl) (fun _ _ _ h => h) (Or.inr ⟨by kernel_rfl, rfl⟩) hS0 ?_
         (try simp only [Act.put, sA, sB, sC])
         refine lateT_take (i := 15) (oi := _) (v := undef) [16, 17, 18, 19] rfl (by kernel_rfl) (by kernel_rfl) (by kernel_rfl) (by kernel_rfl) (fun _ _ _ h => h) (Or.inr ⟨by kernel_rfl, rfl⟩) hS0 ?_
         (try simp only [Act.put, sA, sB, sC])
         refine lateT_take (i := 16) (oi := _) (v := undef) [17, 18, 19] rfl (by kernel_rfl) (by kernel_rfl) (by kernel_rfl) (by kernel_rfl) (fun _ _ _ h => h) (Or.inr ⟨by kernel_rfl, rfl⟩) hS0 ?_
         (try simp only [Act.put, sA, sB, sC])
         refine lateT_take (i := 17) (oi := _) (v := undef) [18, 19] rfl (by kernel_rfl) (by kernel_rfl) (by kernel_rfl) (by kernel_rfl) (fun _ _ _ h => h) (Or.inr ⟨by kernel_rfl, rfl⟩) hS0 ?_
         (try simp only [Act.put, sA, sB, sC])
         refine lateT_take (i := 18) (oi := _) (v := undef) [19] rfl (by kernel_rfl) (by kernel_rfl) (by kernel_rfl) (by kernel_rfl) (fun _ _ _ h => h) (Or.inr ⟨by kernel_rfl, rfl⟩) hS0 ?_
         (try simp only [Act.put, sA, sB, sC])
         refine lateT_step (i := 19) (by kernel_rfl) rfl (fun K hK => ?_)
         go_simp
         refine hK.out _ _ (fun h => absurd rfl h) ?_
         clear hK K
         (try simp only [Act.put, sA, sB, sC])
         refine lateT_done (by kernel_rfl) ?_ _
         have hb9 := hide (hb2.out.trans (hbD.out.mono hb2.out.size))
         go_wp2_with fail
         go_roundw
         case rel => exact ⟨j + 1, by omega, by go_num, hb9.out, .inl ⟨rfl, fun i hi => by
          by_cases e : i < j
          ·exact hF2.out i e
          ·obtain rfl : i = j := by omega
           exact hno.out⟩⟩
         case measure => simp [intOf]; omega
       ·obtain rfl : j = k := by omega
        have hxe : x = (cntB r j : Nat) ∧ cntB r (j + 1) = cntB r j + 1 := by
         rcases hnew.out with ⟨_, _, i, hi, h⟩ | ⟨h1, h2, _⟩
         ·exact absurd h (hF2.out i hi)
         ·exact ⟨h1, h2⟩
        have hzr := hbW.out.size
        have hza : wK.heap.size ≤ (wr.alloc (.cells #[.int .i64 (cntB r j : Nat)] 2)).heap.size := by rw [World.size_alloc]; omega
        have hOa := hide (hO9.out.alloc (.cells #[.int .i64 (cntB r j : Nat)] 2))
        have hta : Hid (r.take (j + 1) = r.take j ++ [(cntB r j : Int)]) := by
         show _ = _
         rw [List.take_add_one, hx.out, hxe.1]; rfl
        have hcs : cntB r (j + 1) = cntB r j + 1 := hxe.2
        replace hxe := hide hxe
        have i1 : ¬ (j : Int) < (j : Int) := by omega
        have i2 : IntKind.i64.wrap ((cntB r j : Int) + 1) = ((cntB r j + 1 : Nat) : Int) := by rw [IntWalk.i64_in _ (by omega)]; omega
        go_wp2_with (first | (at_builtin; (with_reducible refine wpList_app rfl (.tmp 91) (.tmp 93) rfl hE.out flat_iv rfl hOa.out rfl (Sl.lit1' wr 2 (cntB r j : Int) _ rfl 1 _ ?c0) ?c1 hza ?_); rotate_right; intro A6 c6 w6 hown6 hgr6 hb6 hat6))
        case c0 => rfl
        case c1 => omega
        rw [← hta.out] at hown6
        have hb10 := hide ((hbW.out.alloc hzr (.cells #[.int .i64 (cntB r j : Nat)] 2)).trans (hb6.mono (by omega)))
        go_wp2_with fail
        go_roundw
        case rel => exact ⟨j + 1, c6, A6, by omega, by go_num, by rw [hcs]; (try go_num), rfl, hown6, hb10.out⟩
        case measure => simp [intOf]; omega
      ·have hcs : cntB r (k + 1) = cntB r k := by
        rcases hnew.out with ⟨_, h2, _⟩ | ⟨_, _, h3⟩
        ·exact h2
        ·obtain ⟨i, hi, h⟩ := hF2
         exact absurd h (h3 i hi)
       replace hF2 := hide hF2
       have hzr := hbW.out.size
       have hza : wK.heap.size ≤ (wr.alloc (.cells #[.int .i64 x] 2)).heap.size := by rw [World.size_alloc]; omega
       have hOa := hide (hO9.out.alloc (.cells #[.int .i64 x] 2))
       have hta : Hid (r.take (k + 1) = r.take k ++ [x]) := by
        show _ = _
        rw [List.take_add_one, hx.out]; rfl
       have i1 : ¬ x < 0 := by omega
       by_cases hjk : j < k
       all_goals
        go_wp2_with (first | (at_builtin; (with_reducible refine wpList_app rfl (.tmp 91) (.tmp 93) rfl hE.out flat_iv rfl hOa.out rfl (Sl.lit1' wr 2 x _ rfl 1 _ ?c0) ?c1 hza ?_); rotate_right; intro A6 c6 w6 hown6 hgr6 hb6 hat6))
        case c0 => rfl
        case c1 => omega
        rw [← hta.out] at hown6
        have hb10 := hide ((hbW.out.alloc hzr (.cells #[.int .i64 x] 2)).trans (hb6.mono (by omega)))
        go_wp2_with fail
        go_roundw
        case rel => exact ⟨k + 1, c6, A6, by omega, by go_num, by rw [hcs], rfl, hown6, hb10.out⟩
        case measure => simp [intOf]; omega
    ·obtain rfl : k = N := by omega
     have hF := hide (hO7.out.sl flat_iv)
     have hlast : Hid (r.take k = r) := List.take_of_length_le (by rw [hrp.out.len]; exact Nat.le_refl _)
     rw [hlast.out, hr.out] at hF
     have hbF := hide (hbK.out.trans (hb.out.mono hzK))
     have i1 : ¬ (k : Int) < (k : Int) := by omega
     clear hO7
     go_wp2_with fail
     go_ret
     exact ⟨A7, ⟨c7, rfl⟩, ⟨_, hF.out.more hzK (Nat.le_refl _), keyQ_part _ p f, fun i j hi hj hs => ((keyQ_key hi hj).1 hs).1⟩, hbF.out⟩
end Go.Proofs.YtnhomkmfbngmgaaGreatDoor

namespace Go.Proofs.YtnhomkmfbngmgaaGreatDoor
open Go.ChangeShapes Go.WideShapes Go.ChangeAt Go.RowKit Go.Sort Go.Lib
set_option linter.unusedVariables false
set_option linter.unusedSimpArgs false

section
variable {w : World} {N ini : Nat} {A : Option Addr} {n : Nat} {B : Option Addr} {m : Nat} {ls : List ByteArray} {es : List Ed}
theorem rnd_small {es : List Ed} {N : Nat} (hN : N ≤ 40) (j : Nat) : ∀ x, x ∈ rndP es N j → 0 ≤ x ∧ x ≤ 1000 := fun x hx => by
 have := (rnd_part j).range x hx
 omega
set_option maxRecDepth 100000 in
set_option maxHeartbeats 3200000 in
theorem l13Round_calls (h : SysA w N ini A n B m ls es) (c d bx : Nat) (hbx : LtsBox w bx (N : Int) (ini : Int) A n c B m d) (q : Nat) (hq : q ≤ 1000) :
  Calls Tryz.prog 85 #[.pointer (some ⟨bx, 0, none⟩), .int .i64 (q : Int)] w fun e w' => ∃ Q cQ, e = .returned (.slice Q N cQ) ∧ SlI w' w.heap.size w'.heap.size Q N (rndP es N q) ∧ Below w.heap.size w w' := by
 obtain ⟨⟨hN1, hN2⟩, hini⟩ := h.bounds
 have hmk := run_make_int N (by omega)
 have b0 := hbx.c0
 have hAll : ∀ wx, Below w.heap.size w wx → SysA wx N ini A n B m ls es ∧ LtsBox wx bx (N : Int) (ini : Int) A n c B m d := fun wx hx => ⟨h.below hx (Nat.le_refl _), hbx.below hx hbx.lt⟩
 replace hAll := hide hAll
 obtain ⟨w1, hw1⟩ : ∃ w1, w1 = w.alloc (.cells (madeCells #[.int .i64 0] N) 2) := ⟨_, rfl⟩
 have hb1 : Hid (Below w.heap.size w w1) := by show Below _ _ _; rw [hw1]; exact (Below.refl _ _).alloc (Nat.le_refl _) _
 have hs1 : Hid (SlI w1 w.heap.size w1.heap.size (some ⟨w.heap.size, 0, none⟩) N (rndP es N 0)) := by
  show Sl _ _ _ _ _ _ _ _
  rw [hw1]
  exact (made_zeroP w N).more (Nat.le_refl _) (by rw [World.size_alloc]; exact Nat.le_refl _)
 clear h hbx
 go_enter Tryz.func85, Tryz.ntmps85
 go_upto_region 2 with fail
 rw [← show w1 = _ from hw1]
 replace hw1 := hide hw1
 clear b0
 go_wp2_with fail
 go_loopw [1, 5] (fun v1 v5 wr => ∃ (k j c5 : Nat) (A5 : Option Addr), k + j = q ∧ v1 = .int .i64 (k : Nat) ∧ v5 = .slice A5 N c5 ∧ Hid (SlI wr w.heap.size wr.heap.size A5 N (rndP es N j)) ∧ Hid (Below w.heap.size w wr)) (fun v _ _ => (intOf v).toNat)
 case atStart => exact ⟨q, 0, _, _, by omega, rfl, rfl, hs1.out, hb1.out⟩
 case round =>
  clear hs1 hb1
  obtain ⟨k, j, c5, A5, hkj, rfl, rfl, hO, hb⟩ := hrel
  by_cases hlt : 0 < k
  ·have k0 : (0 : Int) < (k : Int) := by omega
   obtain ⟨hSy, hBr⟩ := hAll.out wr hb.out
   have hzr := hb.out.size
   have qR := hide (l13Refine_calls hSy c d bx hBr A5 c5 _ hO.out.here' (rnd_small hN2 j))
   clear hSy hBr
   go_wp2_with fail
   refine qR.out.mono ?_
   rintro e w4 ⟨A4, c4, rfl, hO4, hb4⟩
   have hO4' := hide (hO4.more hzr (Nat.le_refl _))
   have hb4' := hide (hb.out.trans (hb4.mono hzr))
   have hi : IntKind.i64.wrap ((k : Int) - 1) = ((k - 1 : Nat) : Int) := by rw [IntWalk.i64_in _ (by omega)]; omega
   have hi2 : ((k : Int) - 1) = ((k - 1 : Nat) : Int) := by omega
   clear qR hO4 hb4
   go_wp2_with fail
   go_roundw
   case rel => exact ⟨k - 1, j + 1, c4, A4, by omega, by go_num, rfl, hO4'.out, hb4'.out⟩
   case measure => simp [intOf]; omega
  ·obtain rfl : k = 0 := by omega
   obtain rfl : j = q := by omega
   clear hkj
   go_wp2_with fail
   go_ret
   exact ⟨A5, c5, rfl, hO.out, hb.out⟩
set_option maxRecDepth 100000 in
set_option maxHeartbeats 3200000 in
theorem l13Rounds_calls (h : SysA w N ini A n B m ls es) (c d bx : Nat) (hbx : LtsBox w bx (N : Int) (ini : Int) A n c B m d) :
  Calls Tryz.prog 163 #[.pointer (some ⟨bx, 0, none⟩)] w fun e w' => ∃ (r : Nat) (Q : Option Addr) (cQ : Nat), e = .returned (.tuple #[.slice Q N cQ, .int .i64 (r : Int)]) ∧ LastR es N r ∧ SlI w' w.heap.size w'.heap.size Q N (rndP es N r) ∧ Below w.heap.size w w' := by
 obtain ⟨⟨hN1, hN2⟩, hini⟩ := h.bounds
 have hmk := run_make_int N (by omega)
 have hed := hide h.edges
 have b0 := hbx.c0
 have hAll : ∀ wx, Below w.heap.size w wx → SysA wx N ini A n B m ls es ∧ LtsBox wx bx (N : Int) (ini : Int) A n c B m d := fun wx hx => ⟨h.below hx (Nat.le_refl _), hbx.below hx hbx.lt⟩
 replace hAll := hide hAll
 obtain ⟨w1, hw1⟩ : ∃ w1, w1 = w.alloc (.cells (madeCells #[.int .i64 0] N) 2) := ⟨_, rfl⟩
 have hb1 : Hid (Below w.heap.size w w1) := by show Below _ _ _; rw [hw1]; exact (Below.refl _ _).alloc (Nat.le_refl _) _
 have hs1 : Hid (SlI w1 w.heap.size w1.heap.size (some ⟨w.heap.size, 0, none⟩) N (rndP es N 0)) := by
  show Sl _ _ _ _ _ _ _ _
  rw [hw1]
  exact (made_zeroP w N).more (Nat.le_refl _) (by rw [World.size_alloc]; exact Nat.le_refl _)
 clear h hbx
 go_enter Tryz.func163, Tryz.ntmps163
 go_upto_region 2 with fail
 rw [← show w1 = _ from hw1]
 replace hw1 := hide hw1
 clear b0
 go_wp2_with fail
 go_loopw [4, 5] (fun v4 v5 wr => ∃ (j c5 : Nat) (A5 : Option Addr), j + 1 ≤ N ∧ v5 = .int .i64 (j : Nat) ∧ v4 = .slice A5 N c5 ∧ Hid (SlI wr w.heap.size wr.heap.size A5 N (rndP es N j)) ∧ Hid (∀ k, k < j → rndP es N (k + 1) ≠ rndP es N k) ∧ Hid (Below w.heap.size w wr)) (fun _ v _ => N - (intOf v).toNat)
 case atStart => exact ⟨0, _, _, hN1, rfl, rfl, hs1.out, fun k hk => absurd hk (Nat.not_lt_zero k), hb1.out⟩
 case round =>
  clear hs1 hb1
  obtain ⟨j, c5, A5, hj, rfl, rfl, hO, hne, hb⟩ := hrel
  obtain ⟨hSy, hBr⟩ := hAll.out wr hb.out
  have hzr := hb.out.size
  have qR := hide (l13Refine_calls hSy c d bx hBr A5 c5 _ hO.out.here' (rnd_small hN2 j))
  clear hSy hBr
  go_wp2_with fail
  refine qR.out.mono ?_
  rintro e w4 ⟨A4, c4, rfl, hO4, hb4⟩
  have hz4 := hb4.size
  have hO5 := hide (hO.out.below hb4 (.inr (Nat.le_refl _)))
  have qE := l00Same_calls A4 A5 N N c4 c5 (rndP es N (j + 1)) (rndP es N j) w4 _ _ _ _ hO4 hO5.out (by omega) (by omega)
  replace hO4 := hide hO4
  replace hb4 := hide hb4
  clear qR
  by_cases heq : rndP es N (j + 1) = rndP es N j
  ·rw [decide_eq_true heq] at qE
   replace qE := hide qE
   replace heq := hide heq
   go_wp2_with fail
   refine qE.out.mono ?_
   rintro e w5 ⟨rfl, hb5⟩
   have hbF := hide (hb.out.trans ((hb4.out.trans (hb5.mono hz4)).mono hzr))
   have hOF := hide (((hO5.out.below hb5 (.inr (by have := hb5.size; exact Nat.le_refl _)))).more (Nat.le_refl _) (Nat.le_trans hz4 hb5.size))
   go_wp2_with fail
   go_ret2
   exact ⟨j, A5, c5, rfl, ⟨heq.out, hne.out⟩, hOF.out, hbF.out⟩
  ·rw [decide_eq_false heq] at qE
   replace qE := hide qE
   have hnew : Hid (∀ k, k < j + 1 → rndP es N (k + 1) ≠ rndP es N k) := fun k hk => by
    by_cases e : k < j
    ·exact hne.out k e
    ·obtain rfl : k = j := by omega
     exact heq
   have hjN : j + 1 + 1 ≤ N := rnd_bound hed.out hN1 hnew.out
   clear heq
   go_wp2_with fail
   refine qE.out.mono ?_
   rintro e w5 ⟨rfl, hb5⟩
   have hbF := hide (hb.out.trans ((hb4.out.trans (hb5.mono hz4)).mono hzr))
   have hOF := hide ((hO4.out.below hb5 (.inr (Nat.le_refl _))).more hzr hb5.size)
   clear qE
   go_wp2_with fail
   go_roundw
   case rel => exact ⟨j + 1, c4, A4, hjN, by go_num, rfl, hOF.out, hnew.out, hbF.out⟩
   case measure => simp [intOf]; omega
set_option maxRecDepth 100000 in
set_option maxHeartbeats 1600000 in
theorem l13Part_calls (h : SysA w N ini A n B m ls es) (c d bx : Nat) (hbx : LtsBox w bx (N : Int) (ini : Int) A n c B m d) :
  Calls Tryz.prog 82 #[.pointer (some ⟨bx, 0, none⟩)] w fun e w' => ∃ (r : Nat) (Q : Option Addr) (cQ : Nat), e = .returned (.slice Q N cQ) ∧ LastR es N r ∧ SlI w' w.heap.size w'.heap.size Q N (rndP es N r) ∧ Below w.heap.size w w' := by
 have q := hide (l13Rounds_calls h c d bx hbx)
 clear h hbx
 go_enter Tryz.func82, Tryz.ntmps82
 go_wp2_with fail
 refine q.out.mono ?_
 rintro e w4 ⟨r, Q, cQ, rfl, hL, hO, hb⟩
 replace hL := hide hL
 replace hO := hide hO
 replace hb := hide hb
 clear q
 go_wp2_with fail
 go_ret
 exact ⟨r, Q, cQ, rfl, hL.out, hO.out, hb.out⟩
end
end Go.Proofs.YtnhomkmfbngmgaaGreatDoor

namespace Go.Proofs.YtnhomkmfbngmgaaGreatDoor
open Go.ChangeShapes Go.WideShapes Go.ChangeAt Go.RowKit Go.Sort Go.Lib
set_option linter.unusedVariables false
set_option linter.unusedSimpArgs false

def PartTo (w w' : World) (Q : Option Addr) (N : Nat) : Prop := ∃ q, SlI w' w.heap.size w'.heap.size Q N q ∧ PartN N q
theorem finer_more {N : Nat} {p q : List Int} (hp : PartN N p) (hq : PartN N q) (hf : ∀ i j, i < N → j < N → sameB q i j → sameB p i j) (hne : q ≠ p) : numB p + 1 ≤ numB q := by
 obtain ⟨h1, h2⟩ := numB_fine (p := p) (q := q) (by rw [hp.len, hq.len]) (fun i j hi hj => hf i j (by rw [hp.len] at hi; exact hi) (by rw [hp.len] at hj; exact hj))
 by_cases e : numB p = numB q
 ·refine absurd (part_ext hq hp fun i j hi hj => ⟨hf i j hi hj, fun hs => ?_⟩) hne
  exact h2 e i j (by rw [hp.len]; exact hi) (by rw [hp.len]; exact hj) hs
 ·omega
set_option maxRecDepth 100000 in
set_option maxHeartbeats 3200000 in
theorem l15Part_calls {w : World} {N ini : Nat} {A : Option Addr} {n : Nat} {B : Option Addr} {m : Nat} {ls : List ByteArray} {es : List Ed} (h : SysA w N ini A n B m ls es) (c d bx : Nat) (hbx : LtsBox w bx (N : Int) (ini : Int) A n c B m d) (dv : Bool) :
  Calls Tryz.prog 83 #[.pointer (some ⟨bx, 0, none⟩), .bool dv] w fun e w' => ∃ Q cQ, e = .returned (.slice Q N cQ) ∧ PartTo w w' Q N ∧ Below w.heap.size w w' := by
 obtain ⟨⟨hN1, hN2⟩, hini⟩ := h.bounds
 have hmk := run_make_int N (by omega)
 have b0 := hbx.c0
 have hAll : ∀ wx, Below w.heap.size w wx → SysA wx N ini A n B m ls es ∧ LtsBox wx bx (N : Int) (ini : Int) A n c B m d := fun wx hx => ⟨h.below hx (Nat.le_refl _), hbx.below hx hbx.lt⟩
 replace hAll := hide hAll
 obtain ⟨w1, hw1⟩ : ∃ w1, w1 = w.alloc (.cells (madeCells #[.int .i64 0] N) 2) := ⟨_, rfl⟩
 have hb1 : Hid (Below w.heap.size w w1) := by show Below _ _ _; rw [hw1]; exact (Below.refl _ _).alloc (Nat.le_refl _) _
 have hs1 : Hid (SlI w1 w.heap.size w1.heap.size (some ⟨w.heap.size, 0, none⟩) N (rndP es N 0)) := by
  show Sl _ _ _ _ _ _ _ _
  rw [hw1]
  exact (made_zeroP w N).more (Nat.le_refl _) (by rw [World.size_alloc]; exact Nat.le_refl _)
 have hp0 := hide (rnd_part (es := es) (N := N) 0)
 clear h hbx
 go_enter Tryz.func83, Tryz.ntmps83
 go_upto_region 2 with fail
 rw [← show w1 = _ from hw1]
 replace hw1 := hide hw1
 clear b0
 go_loopg [5] (N + 1) (fun G v5 wr => ∃ (c5 : Nat) (A5 : Option Addr) (p : List Int), v5 = .slice A5 N c5 ∧ Hid (SlI wr w.heap.size wr.heap.size A5 N p) ∧ Hid (PartN N p) ∧ Hid (N + 1 ≤ G + numB p) ∧ Hid (Below w.heap.size w wr))
 case atStart => exact ⟨_, _, _, rfl, hs1.out, hp0.out, Nat.le_add_right _ _, hb1.out⟩
 case round =>
  clear hs1 hb1 hp0
  obtain ⟨c5, A5, p, rfl, hO, hp, hG, hb⟩ := hrel
  obtain ⟨hSy, hBr⟩ := hAll.out wr hb.out
  have hzr := hb.out.size
  have hle := numB_le p
  rw [hp.out.len] at hle
  have hG1 := hG.out
  obtain ⟨G2, rfl⟩ : ∃ G2, gk = G2 + 1 := ⟨gk - 1, by omega⟩
  have qR := hide (l15Refine_calls hSy c d bx hBr A5 c5 _ hO.out.here' (fun x hx => by have := hp.out.range x hx; omega) dv)
  clear hSy hBr hG1
  go_wp2_with fail
  refine qR.out.mono ?_
  rintro e w4 ⟨A4, c4, rfl, hF, hb4⟩
  obtain ⟨q, hO4, hq, hf⟩ := hF
  have hz4 := hb4.size
  have hO5 := hide (hO.out.below hb4 (.inr (Nat.le_refl _)))
  have qE := l00Same_calls A4 A5 N N c4 c5 q p w4 _ _ _ _ hO4 hO5.out (by omega) (by omega)
  have hmore := hide (finer_more hp.out hq hf)
  replace hO4 := hide hO4
  replace hb4 := hide hb4
  replace hf := hide hf
  replace hq := hide hq
  clear qR
  by_cases heq : q = p
  ·rw [decide_eq_true heq] at qE
   replace qE := hide qE
   replace heq := hide heq
   go_wp2_with fail
   refine qE.out.mono ?_
   rintro e w5 ⟨rfl, hb5⟩
   have hbF := hide (hb.out.trans ((hb4.out.trans (hb5.mono hz4)).mono hzr))
   have hOF := hide (((hO5.out.below hb5 (.inr (by have := hb5.size; exact Nat.le_refl _)))).more (Nat.le_refl _) (Nat.le_trans hz4 hb5.size))
   go_wp2_with fail
   go_ret
   exact ⟨A5, c5, rfl, ⟨p, hOF.out, hp.out⟩, hbF.out⟩
  ·rw [decide_eq_false heq] at qE
   replace qE := hide qE
   have hG2 : Hid (N + 1 ≤ G2 + numB q) := by
    have h1 := hmore.out heq
    have h2 := hG.out
    show _ ≤ _
    omega
   clear heq
   go_wp2_with fail
   refine qE.out.mono ?_
   rintro e w5 ⟨rfl, hb5⟩
   have hbF := hide (hb.out.trans ((hb4.out.trans (hb5.mono hz4)).mono hzr))
   have hOF := hide ((hO4.out.below hb5 (.inr (Nat.le_refl _))).more hzr hb5.size)
   clear qE
   go_wp2_with fail
   go_roundg G2
   case rel => exact ⟨c4, A4, q, rfl, hOF.out, hq.out, hG2.out, hbF.out⟩
   case measure => exact Nat.lt_succ_self _
end Go.Proofs.YtnhomkmfbngmgaaGreatDoor

namespace Go.Proofs.YtnhomkmfbngmgaaGreatDoor
open Go.ChangeShapes Go.WideShapes Go.ChangeAt Go.RowKit
set_option linter.unusedVariables false
set_option linter.unusedSimpArgs false

set_option maxRecDepth 100000 in
theorem l11Place_calls (v : Int) (A : Option Addr) (n c : Nat) (l : List Int) (w : World) (lo hi : Nat) (h : SlI w lo hi A n l) (hn : n ≤ 1048576) :
  Calls Tryz.prog 87 #[.slice A n c, .int .i64 v] w fun e w' => ∃ i : Int, e = .returned (.int .i64 i) ∧ FstI l v i ∧ w = w' := by
 have hlen := hide h.len
 go_enter Tryz.func87, Tryz.ntmps87
 go_wp2_with fail
 go_loop [5] (fun i => ∃ k : Nat, k ≤ n ∧ i = .int .i64 k ∧ Hid (∀ x, x ∈ l.take k → x ≠ v)) (fun i => n - (intOf i).toNat)
 case atStart => exact ⟨0, Nat.zero_le _, rfl, fun x hx => by simp at hx⟩
 case round =>
  obtain ⟨k, hk, rfl, ha⟩ := hrel
  by_cases hlt : k < n
  ·obtain ⟨b, off, x, rfl, g1, g2, g3, hx, c0, -⟩ := SlI.get h hlt
   clear h
   have k0 : (0 : Int) ≤ (k : Int) := by omega
   have k1 : (k : Int) < (n : Int) := by omega
   by_cases hq : x = v
   ·subst hq
    have hy : Hid (FstI l x (k : Int)) := .inr ⟨k, rfl, by rw [hlen.out]; exact hlt, hx⟩
    have g9 : (x == x) = true := by simp
    clear hx
    go_wp2_with fail
    go_ret
    exact ⟨_, rfl, hy.out, rfl⟩
   ·have hy : Hid (∀ x, x ∈ l.take (k + 1) → x ≠ v) := fun y hy => by
     rw [List.take_add_one, hx] at hy
     rcases List.mem_append.1 hy with hy | hy
     ·exact ha.out y hy
     ·have : y = x := by simpa using hy
      rw [this]; exact hq
    have g9 : (x == v) = false := beq_eq_false_iff_ne.2 hq
    clear hx hq
    go_wp2_with fail
    go_round
    case rel => exact ⟨k + 1, by omega, by go_num, hy⟩
    case measure => simp [intOf]; omega
  ·have hkn : k = n := by omega
   subst hkn
   clear h
   have hy := ha.out
   rw [List.take_of_length_le (by rw [hlen.out]; exact Nat.le_refl _)] at hy
   have hf : Hid (FstI l v (-1)) := .inl ⟨rfl, fun hm => hy v hm rfl⟩
   clear ha hy
   go_wp2_with fail
   go_ret
   exact ⟨_, rfl, hf.out, rfl⟩
theorem norm_step {T : List Int} {k : Nat} {x i : Int} (hx : T[k]? = some x) (hf : FstI (firsts [] (T.take k)) x i) :
  (i = -1 ∧ firsts [] (T.take (k + 1)) = firsts [] (T.take k) ++ [x] ∧ (normF T)[k]? = some ((firsts [] (T.take k)).length : Int)) ∨ (0 ≤ i ∧ firsts [] (T.take (k + 1)) = firsts [] (T.take k) ∧ (normF T)[k]? = some i) := by
 have hn : (firsts [] (T.take k)).Nodup := firsts_nodup List.nodup_nil
 obtain ⟨K, hK⟩ := firsts_app (firsts [] (T.take (k + 1))) (T.drop (k + 1))
 rw [← firsts_two, List.take_append_drop] at hK
 have h1 : firsts [] (T.take (k + 1)) = firsts (firsts [] (T.take k)) [x] := by
  rw [← firsts_two, List.take_add_one, hx]; rfl
 rw [firsts_one] at h1
 rw [normF_at hx, hK]
 rcases hf with ⟨rfl, hm⟩ | ⟨j, rfl, hj, hjx⟩
 ·left
  rw [if_neg hm] at h1
  refine ⟨rfl, h1, ?_⟩
  rw [h1, List.idxOf_append, if_pos (by simp), List.idxOf_append, if_neg hm]
  simp
 ·right
  have hm : x ∈ firsts [] (T.take k) := List.mem_of_getElem? hjx
  rw [if_pos hm] at h1
  refine ⟨by omega, h1, ?_⟩
  rw [h1, List.idxOf_append, if_pos hm]
  have := idx_self hn hj
  rw [(List.getElem?_eq_some_iff.1 hjx).2] at this
  rw [this]
end Go.Proofs.YtnhomkmfbngmgaaGreatDoor

namespace Go.Proofs.YtnhomkmfbngmgaaGreatDoor
open Go.ChangeShapes Go.WideShapes Go.ChangeAt Go.RowKit
set_option linter.unusedVariables false
set_option linter.unusedSimpArgs false

theorem Sl.litJ (w : World) (t : TypeId) (l : List Int) (cs : Array Value) (h : cs.toList = l.map (Value.int .i64)) : SlI (w.alloc (.cells cs t)) w.heap.size (w.heap.size + 1) (some ⟨w.heap.size, 0, none⟩) l.length l := by
 refine ⟨rfl, fun _ => ⟨w.heap.size, 0, rfl, Nat.le_refl _, by omega, by simp, fun k y hy j u hu => ?_⟩⟩
 have hj : j = 0 := by have := (List.getElem?_eq_some_iff.1 hu).1; simp [iv] at this; exact this
 subst hj
 simp [iv] at hu
 subst hu
 simp only [Nat.mul_one, Nat.add_zero, Nat.zero_add]
 have hg := heap_alloc_new w (.cells cs t)
 refine ⟨(cell_of_row _ _ _ cs t (0, 0) hg).trans ?_, frozen_of_row _ _ _ cs t hg⟩
 rw [← Array.getElem?_toList, h, List.getElem?_map, hy]; rfl

theorem r8Long_no (A B : Option Addr) (n m c d : Nat) (w : World) (hn : n ≤ 1048576) (hm : m ≤ 1048576) :
  Calls Tryz.prog 10 #[.slice A n c, .slice B m d] w fun e w' => e = .returned (.bool false) ∧ w = w' := by
 have h1 : ¬ (1048576 : Int) < (n : Int) := by omega
 have h2 : ¬ (1048576 : Int) < (m : Int) := by omega
 go_enter Tryz.func10, Tryz.ntmps10
 go_wp2_with fail
 go_ret
 exact ⟨rfl, rfl⟩
theorem r8Long_yes (A B : Option Addr) (n m c d : Nat) (w : World) (h : 1048576 < n ∨ 1048576 < m) :
  Calls Tryz.prog 10 #[.slice A n c, .slice B m d] w fun e w' => e = .returned (.bool true) ∧ w = w' := by
 by_cases h1 : (1048576 : Int) < (n : Int)
 ·go_enter Tryz.func10, Tryz.ntmps10
  go_wp2_with fail
  go_ret
  exact ⟨rfl, rfl⟩
 ·have h2 : (1048576 : Int) < (m : Int) := by omega
  go_enter Tryz.func10, Tryz.ntmps10
  go_wp2_with fail
  go_ret
  exact ⟨rfl, rfl⟩
section
variable {w : World} {N ini : Nat} {A : Option Addr} {n : Nat} {B : Option Addr} {m : Nat} {ls : List ByteArray} {es : List Ed}
set_option maxRecDepth 100000 in
theorem itemsOk_calls (k : Int) (w : World) :
  Calls Tryz.prog 294 #[.int .i64 k] w fun e w' => e = .returned (.bool (inB k 1 40)) ∧ w = w' := by
 have q := hide (within_calls k 1 40 w)
 go_enter Tryz.func294, Tryz.ntmps294
 go_wp2_with (first | (go_at_call 118; (with_reducible refine q.out.mono ?_); rintro e w2 ⟨rfl, rfl⟩))
 go_ret
 exact ⟨rfl, rfl⟩
set_option maxRecDepth 100000 in
theorem isPartition_calls (P : Option Addr) (cp : Nat) (p : List Int) (w : World) (lo hi : Nat) (hP : SlI w lo hi P N p) (hN : 1 ≤ N ∧ N ≤ 40) (hp : PartN N p) :
  Calls Tryz.prog 237 #[.slice P N cp] w fun e w' => e = .returned (.bool true) ∧ Below w.heap.size w w' := by
 have q1 := itemsOk_calls (N : Int) w
 rw [inB_true.2 (show (1 : Int) ≤ (N : Int) ∧ (N : Int) ≤ 40 by omega)] at q1
 replace q1 := hide q1
 have q2 := normalF_calls P N cp p w lo hi hP (by omega) (fun x hx => by have := hp.range x hx; omega)
 rw [hp.norm] at q2
 replace q2 := hide q2
 replace hP := hide hP
 clear hp
 go_enter Tryz.func237, Tryz.ntmps237
 go_wp2_with (first | (go_at_call 294; (with_reducible refine q1.out.mono ?_); rintro e w' ⟨rfl, rfl⟩) | fail)
 refine q2.out.mono ?_
 rintro e w2 ⟨Bq, rfl, hB, hb2⟩
 have q3 := equalI_calls P (some ⟨Bq, 0, none⟩) N N cp N p p w2 _ _ _ _ (hP.out.below hb2 (.inr (Nat.le_refl _))) hB (by omega) (by omega)
 rw [decide_eq_true rfl] at q3
 replace q3 := hide q3
 have hz := hb2.size
 replace hb2 := hide hb2
 replace hB := hide hB
 clear q1 q2
 go_wp2_with fail
 refine q3.out.mono ?_
 rintro e w3 ⟨rfl, hb3⟩
 have hbF := hide (hb2.out.trans (hb3.mono hz))
 clear q3 hb3
 go_wp2_with fail
 go_ret
 exact ⟨rfl, hbF.out⟩
set_option maxRecDepth 100000 in
theorem partitionOf_calls (h : SysA w N ini A n B m ls es) (c d : Nat) (P : Option Addr) (cp : Nat) (p : List Int) (hP : SlI w 0 w.heap.size P N p) (hp : PartN N p) :
  Calls Tryz.prog 159 #[.agg #[.int .i64 (N : Int), .int .i64 (ini : Int), .slice A n c, .slice B m d], .slice P N cp] w fun e w' => e = .returned (.bool true) ∧ Below w.heap.size w w' := by
 have hB := h.box (c := c) (d := d)
 obtain ⟨w1, hw1⟩ : ∃ w1, w1 = w.alloc (ltsC N ini A n c B m d) := ⟨_, rfl⟩
 rw [← hw1] at hB
 have hP1 := hP.below hB.bel (.inr (Nat.le_refl _))
 have q1 := hide (isPartition_calls P cp p w1 _ _ hP1 hB.sys.bounds.1 hp)
 have hz1 := hB.bel.size
 have b0 := hB.box.c0
 have b1 := hB.box.c1
 have b2 := hB.box.c2
 have b3 := hB.box.c3
 replace hB := hide hB
 clear h hP hP1
 go_enter Tryz.func159, Tryz.ntmps159
 go_upto_region 1 with fail
 rw [← show w1 = w.alloc (.cells #[.int .i64 (N : Int), .int .i64 (ini : Int), .slice A n c, .slice B m d] 27) from hw1]
 replace hw1 := hide hw1
 go_wp2_with fail
 refine q1.out.mono ?_
 rintro e w2 ⟨rfl, hb2⟩
 have hB2 := hide (hB.out.below hb2)
 clear q1 b0 b1 b2 b3 hb2
 have b0 := hB2.out.box.c0
 have hNN : ((N : Int) == (N : Int)) = true := by simp
 go_wp2_with fail
 go_ret
 exact ⟨by simp, hB2.out.bel⟩

set_option maxRecDepth 100000 in
set_option maxHeartbeats 1600000 in
theorem ltsPartition_calls (h : SysA w N ini A n B m ls es) (c d : Nat) (he : Env w) (P : Option Addr) (cp : Nat) (p : List Int) (hP : SlI w 0 w.heap.size P N p) (hp : PartN N p) :
  Calls Tryz.prog 79 #[.agg #[.int .i64 (N : Int), .int .i64 (ini : Int), .slice A n c, .slice B m d], .slice P N cp] w fun e w' => e = .returned (.int .i64 0) ∧ Below w.heap.size w w' := by
 have hB := h.box (c := c) (d := d)
 obtain ⟨w1, hw1⟩ : ∃ w1, w1 = w.alloc (ltsC N ini A n c B m d) := ⟨_, rfl⟩
 rw [← hw1] at hB
 have he1 := he.below hB.bel (Nat.le_refl _)
 have q1 := hide (hB.sys.valid c d he1)
 have hP1 := hide (hP.below hB.bel (.inr (Nat.le_refl _)))
 have b0 := hB.box.c0
 have b1 := hB.box.c1
 have b2 := hB.box.c2
 have b3 := hB.box.c3
 replace hB := hide hB
 clear h he he1 hP
 go_enter Tryz.func79, Tryz.ntmps79
 go_upto_region 1 with fail
 rw [← show w1 = w.alloc (.cells #[.int .i64 (N : Int), .int .i64 (ini : Int), .slice A n c, .slice B m d] 27) from hw1]
 replace hw1 := hide hw1
 go_wp2_with fail
 refine q1.out.mono ?_
 rintro e w2 ⟨rfl, hb2⟩
 have hB2 := hide (hB.out.below hb2)
 have hP2 := hide ((hP1.out.below hb2 (.inr (Nat.le_refl _))).here')
 clear q1 b0 b1 b2 b3 hb2
 have b0 := hB2.out.box.c0
 have b1 := hB2.out.box.c1
 have b2 := hB2.out.box.c2
 have b3 := hB2.out.box.c3
 have q2 := hide (partitionOf_calls hB2.out.sys c d P cp p hP2.out hp)
 have hz2 := hB2.out.bel.size
 go_wp2_with fail
 refine q2.out.mono ?_
 rintro e w3 ⟨rfl, hb3⟩
 have hbF := hide (hB2.out.bel.trans (hb3.mono hz2))
 clear q2 b0 b1 b2 b3 hb3
 go_wp2_with fail
 go_ret
 exact ⟨rfl, hbF.out⟩

end
end Go.Proofs.YtnhomkmfbngmgaaGreatDoor

namespace Go.Proofs.YtnhomkmfbngmgaaGreatDoor
open Go.ChangeShapes Go.WideShapes Go.ChangeAt Go.RowKit
set_option linter.unusedVariables false
set_option linter.unusedSimpArgs false

def SysD (w : World) (e : Ending) (w' : World) : Prop := ∃ (st ini : Nat) (A : Option Addr) (n c : Nat) (B : Option Addr) (m d : Nat) (ls : List ByteArray) (es : List Ed),
 e = .returned (.agg #[.int .i64 (st : Int), .int .i64 (ini : Int), .slice A n c, .slice B m d]) ∧ SysA w' st ini A n B m ls es ∧ st ≤ 7 ∧ n ≤ 7 ∧ m ≤ 64 ∧ NamD ls ∧ Below w.heap.size w w'
set_option maxRecDepth 100000 in
set_option maxHeartbeats 1600000 in
theorem R8Lts_calls (A : Option Addr) (n c : Nat) (code : List Int) (w : World) (h : SlU w 0 w.heap.size A n code) (hc : ∀ x, x ∈ code → 0 ≤ x ∧ x ≤ 255) (hn : n ≤ maxLen) :
  Calls Tryz.prog 11 #[.slice A n c] w (SysD w) := by
 have hb1 := (Below.refl w.heap.size w).alloc (Nat.le_refl _) (.cells #[.int .i64 0, .int .i64 0, .slice none 0 0, .slice none 0 0] 27)
 have k8 := heap_alloc_new w (.cells #[.int .i64 0, .int .i64 0, .slice none 0 0, .slice none 0 0] 27)
 have hz1 : w.heap.size < (w.alloc (.cells #[.int .i64 0, .int .i64 0, .slice none 0 0, .slice none 0 0] 27)).heap.size := by simp
 obtain ⟨w1, hw1⟩ : ∃ w1, w1 = w.alloc (.cells #[.int .i64 0, .int .i64 0, .slice none 0 0, .slice none 0 0] 27) := ⟨_, rfl⟩
 rw [← hw1] at hb1 k8 hz1
 have q1 := hide (l00From_calls A n c code w1 ((h.below hb1 (.inl (Nat.le_refl _))).more (Nat.le_refl _) hb1.size) hc hn)
 replace hb1 := hide hb1
 replace k8 := hide k8
 clear h hc
 go_enter Tryz.func11, Tryz.ntmps11
 go_upto_region 1 with fail
 rw [← hw1]
 replace hw1 := hide hw1
 go_wp2_with fail
 refine q1.out.mono ?_
 rintro e w2 ⟨rfl, hS, hb2, hz2⟩
 have q2 := hide (l15DrawOk_calls w1.heap.size 0 w2 hS (by omega))
 have hlt1 : w1.heap.size < w2.heap.size := hS.lt
 replace hb2 := hide hb2
 replace hz2 := hide hz2
 clear q1 hS
 go_wp2_with fail
 refine q2.out.mono ?_
 rintro e w3 hd
 obtain ⟨st, ini, A2, n2, c2, B2, m2, d2, ls, es, rfl, hsys, h7, h64, hn7, hnam, -, hon, hA, hB⟩ := hd.sys (by omega)
 have hb3 := hide (show Below w1.heap.size w1 w3 from ⟨hon.os.trans hb2.out.os, hon.tape.trans hb2.out.tape, hon.output.trans hb2.out.output, Nat.le_trans hb2.out.size hon.size, fun q hq => (hon.block q (by omega) (by omega)).trans (hb2.out.block q hq)⟩)
 have h8 : w3.heap[w.heap.size]? = _ := (hb3.out.block w.heap.size hz1).trans k8.out
 have a0 : w3.cell? ⟨w.heap.size, 0, none⟩ = some (.int .i64 0) := (cell_of_row _ _ 0 _ _ (0, 0) h8).trans rfl
 have a1 : w3.cell? ⟨w.heap.size, 1, none⟩ = some (.int .i64 0) := (cell_of_row _ _ 1 _ _ (0, 0) h8).trans rfl
 have a2 : w3.cell? ⟨w.heap.size, 2, none⟩ = some (.slice none 0 0) := (cell_of_row _ _ 2 _ _ (0, 0) h8).trans rfl
 have a3 : w3.cell? ⟨w.heap.size, 3, none⟩ = some (.slice none 0 0) := (cell_of_row _ _ 3 _ _ (0, 0) h8).trans rfl
 have z0 : w3.frozen? ⟨w.heap.size, 0, none⟩ = false := frozen_of_row _ _ 0 _ _ h8
 have z1 : w3.frozen? ⟨w.heap.size, 1, none⟩ = false := frozen_of_row _ _ 1 _ _ h8
 have z2 : w3.frozen? ⟨w.heap.size, 2, none⟩ = false := frozen_of_row _ _ 2 _ _ h8
 have z3 : w3.frozen? ⟨w.heap.size, 3, none⟩ = false := frozen_of_row _ _ 3 _ _ h8
 replace h8 := hide h8
 have hm64 : m2 ≤ 64 := by have := hsys.se.len; omega
 replace hA := hide hA
 replace hB := hide hB
 replace hsys := hide hsys
 replace hd := hide hd
 replace hnam := hide hnam
 replace hon := hide hon
 clear q2
 go_wp2_with fail
 (try simp only [Exit.inBlock, Exit.then])
 refine bodyPost_ret_by (v := .agg #[.int .i64 (st : Int), .int .i64 (ini : Int), .slice A2 n2 c2, .slice B2 m2 d2]) ?_ rfl ?_
 focus
  rw [results_cell1 rfl]
  go_simp
 change SysD w _ (put4 w3 w.heap.size _ _ _ _)
 have hZs := put4_size w3 w.heap.size (.int .i64 (st : Int)) (.int .i64 (ini : Int)) (.slice A2 n2 c2) (.slice B2 m2 d2)
 have hz3 := hb3.out.size
 have hz23 := hon.out.size
 refine ⟨st, ini, A2, n2, c2, B2, m2, d2, ls, es, rfl, ⟨?_, ?_, hsys.out.ok, hsys.out.sz⟩, h7, hn7, hm64, hnam.out, ?_⟩
 ·exact (Sl.keep hA.out (by omega) fun q h1 h2 h3 => put4_other _ _ _ _ _ _ (by omega)).here'
 ·exact (Sl.keep hB.out (by omega) fun q h1 h2 h3 => put4_other _ _ _ _ _ _ (by omega)).here'
 ·have h1 := hb1.out.trans (hb3.out.mono (by omega))
  exact ⟨h1.os, h1.tape, h1.output, by omega, fun q hq => (put4_other _ _ _ _ _ _ (by omega)).trans (h1.block q hq)⟩

end Go.Proofs.YtnhomkmfbngmgaaGreatDoor
