/-
  Lemmas that the law of this claim leans on. Conditions: sizes.
-/
import Derived.Test.YtnhomkmfbngmgaaGreatDoorBaseH
import Derived.Test.YtnhomkmfbngmgaaGreatDoorBaseK
import Derived.Test.YtnhomkmfbngmgaaGreatDoorBaseM
import Derived.Test.YtnhomkmfbngmgaaGreatDoorBaseN
set_option maxHeartbeats 12800000
set_option maxRecDepth 100000
set_option linter.unusedSimpArgs false
set_option linter.unusedVariables false
namespace Go.Proofs.YtnhomkmfbngmgaaGreatDoor
open Go.ChangeShapes Go.WideShapes Go.ChangeAt Go.RowKit Go.Sort Go.Lib
section
variable {w : World} {N ini : Nat} {A : Option Addr} {n : Nat} {B : Option Addr} {m : Nat} {ls : List ByteArray} {es : List Ed}
theorem rnd_small {es : List Ed} {N : Nat} (hN : N ≤ 40) (j : Nat) : ∀ x, x ∈ rndP es N j → 0 ≤ x ∧ x ≤ 1000 := fun x hx => by
 have := (rnd_part j).range x hx;omega
theorem l13Rounds_calls (h : SysA w N ini A n B m ls es) (c d bx : Nat) (hbx : LtsBox w bx (N : Int) (ini : Int) A n c B m d) :
  Calls Tryz.prog 163 #[.pointer (some ⟨bx, 0, none⟩)] w fun e w' => ∃ (r : Nat) (Q : Option Addr) (cQ : Nat), e = .returned (.tuple #[.slice Q N cQ, .int .i64 (r : Int)]) ∧ LastR es N r ∧ SlI w' w.heap.size w'.heap.size Q N (rndP es N r) ∧ Below w.heap.size w w' := by
 obtain ⟨⟨hN1, hN2⟩, hini⟩ := h.bounds;have hmk := run_make_int N (by omega);have hed := hide h.edges;have b0 := hbx.c0;have hAll : ∀ wx, Below w.heap.size w wx → SysA wx N ini A n B m ls es ∧ LtsBox wx bx (N : Int) (ini : Int) A n c B m d := fun wx hx => ⟨h.below hx zR, hbx.below hx hbx.lt⟩
 replace hAll := hide hAll;obtain ⟨w1, hw1⟩ : ∃ w1, w1 = w.alloc (.cells (madeCells #[.int .i64 0] N) 2) := ⟨_, rfl⟩;have hb1 : Hid (Below w.heap.size w w1) := by show Below _ _ _; rw [hw1]; exact bR.alloc zR _
 have hs1 : Hid (SlI w1 w.heap.size w1.heap.size (some ⟨w.heap.size, 0, none⟩) N (rndP es N 0)) := by
  show Sl _ _ _ _ _ _ _ _
  rw [hw1];exact (made_zeroP w N).more zR (by rw [World.size_alloc]; exact zR)
 clear h hbx;go_enter Tryz.func163, Tryz.ntmps163;go_upto_region 2 with fail;rw [← show w1 = _ from hw1];replace hw1 := hide hw1;clear b0;go_wp2_with fail
 go_loopw [4, 5] (fun v4 v5 wr => ∃ (j c5 : Nat) (A5 : Option Addr), j + 1 ≤ N ∧ v5 = .int .i64 (j : Nat) ∧ v4 = .slice A5 N c5 ∧ Hid (SlI wr w.heap.size wr.heap.size A5 N (rndP es N j)) ∧ Hid (∀ k, k < j → rndP es N (k + 1) ≠ rndP es N k) ∧ Hid (Below w.heap.size w wr)) (fun _ v _ => N - (intOf v).toNat)
 case atStart => exact ⟨0, _, _, hN1, rfl, rfl, hs1.out, fun k hk => absurd hk (Nat.not_lt_zero k), hb1.out⟩
 case round =>
  clear hs1 hb1;obtain ⟨j, c5, A5, hj, rfl, rfl, hO, hne, hb⟩ := hrel;obtain ⟨hSy, hBr⟩ := hAll.out wr hb.out;have hzr := hb.out.size;have qR := hide (l13Refine_calls hSy c d bx hBr A5 c5 _ hO.out.here' (rnd_small hN2 j));clear hSy hBr;go_wp2_with fail;refine qR.out.mono ?_;rintro e w4 ⟨A4, c4, rfl, hO4, hb4⟩;have hz4 := hb4.size;have hO5 := hide (hO.out.below hb4 (.inr zR));have qE := l00Same_calls A4 A5 N N c4 c5 (rndP es N (j + 1)) (rndP es N j) w4 _ _ _ _ hO4 hO5.out (by omega) (by omega);replace hO4 := hide hO4;replace hb4 := hide hb4;clear qR
  by_cases heq : rndP es N (j + 1) = rndP es N j
  ·rw [decide_eq_true heq] at qE
   replace qE := hide qE;replace heq := hide heq;go_wp2_with fail;refine qE.out.mono ?_;rintro e w5 ⟨rfl, hb5⟩;have hbF := hide (hb.out.trans ((hb4.out.trans (hb5.mono hz4)).mono hzr));have hOF := hide (((hO5.out.below hb5 (.inr (by have := hb5.size; exact zR)))).more zR (Nat.le_trans hz4 hb5.size));go_wp2_with fail;go_ret2;exact ⟨j, A5, c5, rfl, ⟨heq.out, hne.out⟩, hOF.out, hbF.out⟩
  ·rw [decide_eq_false heq] at qE
   replace qE := hide qE;have hnew : Hid (∀ k, k < j + 1 → rndP es N (k + 1) ≠ rndP es N k) := fun k hk => by
    by_cases e : k < j
    ·exact hne.out k e
    ·obtain rfl : k = j := by omega
     exact heq
   have hjN : j + 1 + 1 ≤ N := rnd_bound hed.out hN1 hnew.out;clear heq;go_wp2_with fail;refine qE.out.mono ?_;rintro e w5 ⟨rfl, hb5⟩;have hbF := hide (hb.out.trans ((hb4.out.trans (hb5.mono hz4)).mono hzr));have hOF := hide ((hO4.out.below hb5 (.inr zR)).more hzr hb5.size);clear qE;go_wp2_with fail;go_roundw
   case rel => exact ⟨j + 1, c4, A4, hjN, by go_num, rfl, hOF.out, hnew.out, hbF.out⟩
   case measure => simp [intOf]; omega
theorem l13Part_calls (h : SysA w N ini A n B m ls es) (c d bx : Nat) (hbx : LtsBox w bx (N : Int) (ini : Int) A n c B m d) :
  Calls Tryz.prog 82 #[.pointer (some ⟨bx, 0, none⟩)] w fun e w' => ∃ (r : Nat) (Q : Option Addr) (cQ : Nat), e = .returned (.slice Q N cQ) ∧ LastR es N r ∧ SlI w' w.heap.size w'.heap.size Q N (rndP es N r) ∧ Below w.heap.size w w' := by
 have q := hide (l13Rounds_calls h c d bx hbx);clear h hbx;go_enter Tryz.func82, Tryz.ntmps82;go_wp2_with fail;refine q.out.mono ?_;rintro e w4 ⟨r, Q, cQ, rfl, hL, hO, hb⟩;replace hL := hide hL;replace hO := hide hO;replace hb := hide hb;clear q;go_wp2_with fail;go_ret;exact ⟨r, Q, cQ, rfl, hL.out, hO.out, hb.out⟩
end
theorem rows_fun {w : World} {base : Nat} {A : Option Addr} {n c : Nat} {R : List (Hd × List Int)} (h : GrowH w base A n c R) (hs : ∀ r, r ∈ R → r.1.2.1 ≤ 1000) : ∃ f, RowsTo f n R := by
 refine ⟨fun i => ((R.map (·.2))[i]?).getD [], ?_, hs⟩;refine List.ext_getElem (by simp [h.len]) fun i h1 h2 => ?_
 rw [List.getElem_map, List.getElem_map, List.getElem_range, List.getElem?_map, List.getElem?_eq_getElem (by simpa using h1)]
 rfl
def keyQ (N : Nat) (p : List Int) (f : Nat → List Int) : List Int := nkF ((List.range N).map fun i => (p[i]?, f i))
theorem keyQ_part (N : Nat) (p : List Int) (f : Nat → List Int) : PartN N (keyQ N p f) := ⟨by unfold keyQ; rw [nkF_len]; simp, nkF_norm _⟩
theorem keyQ_key {N : Nat} {p : List Int} {f : Nat → List Int} {i j : Nat} (hi : i < N) (hj : j < N) : sameB (keyQ N p f) i j ↔ p[i]? = p[j]? ∧ f i = f j := by
 unfold keyQ;rw [nk_same (by simpa using hi) (by simpa using hj)];rw [List.getElem?_map, List.getElem?_map, List.getElem?_range hi, List.getElem?_range hj]
 simp
def FineTo (w w' : World) (Q : Option Addr) (N : Nat) (p : List Int) : Prop := ∃ q, SlI w' w.heap.size w'.heap.size Q N q ∧ PartN N q ∧ ∀ i j, i < N → j < N → sameB q i j → sameB p i j
theorem l15Refine_calls {w : World} {N ini : Nat} {A : Option Addr} {n : Nat} {B : Option Addr} {m : Nat} {ls : List ByteArray} {es : List Ed} (h : SysA w N ini A n B m ls es) (c d bx : Nat) (hbx : LtsBox w bx (N : Int) (ini : Int) A n c B m d) (P : Option Addr) (cP : Nat) (p : List Int) (hP : SlI w 0 w.heap.size P N p) (hp : ∀ x, x ∈ p → 0 ≤ x ∧ x ≤ 1000) (dv : Bool) :
  Calls Tryz.prog 164 #[.pointer (some ⟨bx, 0, none⟩), .slice P N cP, .bool dv] w fun e w' => ∃ Q cQ, e = .returned (.slice Q N cQ) ∧ FineTo w w' Q N p ∧ Below w.heap.size w w' := by
 have hER := hide elem_rowI;have hE := hide elem_int64;have hpl := hP.len;have hmn := h.many;obtain ⟨⟨hN1, hN2⟩, hini⟩ := h.bounds;have hthr := hide h.three;have hAll : ∀ wx, Below w.heap.size w wx → SysA wx N ini A n B m ls es ∧ LtsBox wx bx (N : Int) (ini : Int) A n c B m d ∧ SlI wx 0 w.heap.size P N p := fun wx hx => ⟨h.below hx zR, hbx.below hx hbx.lt, hP.below hx (.inl zR)⟩
 replace hAll := hide hAll;have b0 := hbx.c0;have q := hide (l15Diverge_calls h c d bx hbx P cP p hP);clear h hbx hP b0;go_enter Tryz.func164, Tryz.ntmps164;go_wp2_with fail;refine q.out.mono ?_;rintro e w2 ⟨bl, rfl, hM, hz2, hb2⟩;obtain ⟨w3, hw3⟩ : ∃ w3, w3 = w2.alloc (.cells #[] 32) := ⟨_, rfl⟩;have hb23 : Below w2.heap.size w2 w3 := by rw [hw3]; exact bR.alloc zR _
 have hM3 := hide (hM.below hz2 hb23);have hb3 := hide (hb2.trans (hb23.mono hb2.size));have hz3 : w2.heap.size ≤ w3.heap.size := hb23.size;have hg0 : Hid (GrowH w3 w2.heap.size (some ⟨w2.heap.size, 0, none⟩) 0 0 []) := by show GrowH _ _ _ _ _ _; rw [hw3]; exact GrowH.made w2
 clear q hM hb2 hb23;go_upto_region 3 with fail;rw [← show w3 = _ from hw3];replace hw3 := hide hw3;go_wp2_with fail
 go_loopw [8, 9] (fun v8 v9 wr => ∃ (k c5 : Nat) (A5 : Option Addr) (R : List (Hd × List Int)), k ≤ N ∧ v9 = .int .i64 (k : Nat) ∧ v8 = .slice A5 k c5 ∧ Hid (GrowH wr w2.heap.size A5 k c5 R) ∧ Hid (∀ r, r ∈ R → r.1.2.1 ≤ 1000) ∧ Hid (MkB w wr N bl) ∧ w2.heap.size ≤ wr.heap.size ∧ Hid (Below w.heap.size w wr)) (fun _ v _ => N - (intOf v).toNat)
 case atStart => exact ⟨0, 0, _, _, Nat.zero_le _, rfl, rfl, hg0.out, fun r hr => (List.not_mem_nil hr).elim, hM3.out, hz3, hb3.out⟩
 case round =>
  clear hg0 hb3 hM3;obtain ⟨k, c5, A5, R, hk, rfl, rfl, hG, hRs, hM, hz2r, hb⟩ := hrel;have b0 := (hAll.out wr hb.out).2.1.c0
  by_cases hlt : k < N
  ·obtain ⟨hSy, hBr, hPr⟩ := hAll.out wr hb.out
   have k0 : (0 : Int) ≤ (k : Int) := by omega
   have k1 : (k : Int) < (N : Int) := by omega
   have qO := hide (l15Offers_calls hSy c d bx hBr P cP p hPr.here' hp k hlt);clear hSy hBr hPr;go_upto_region 6 with fail;go_wp2_with fail;refine qO.out.mono ?_;rintro e w4 ⟨A4, n4, c4, l4, rfl, hO4, hn4, hb4⟩;have hM4 : Hid (MkB w w4 N bl) := ⟨hM.out.1.below hb4 (.inl (by omega)), hM.out.2⟩;obtain ⟨m1, -⟩ := hM4.out.at_ hlt;obtain ⟨x, hx⟩ : ∃ x, x = inS bl k := ⟨_, rfl⟩;rw [← hx] at m1;have hs4 := hide (hO4.sl flat_iv);replace hx := hide hx;replace hO4 := hide hO4;replace hb4 := hide hb4;clear qO
   by_cases hdx : dv = true ∧ x = true
   ·obtain ⟨rfl, rfl⟩ := hdx
    have hz4 := hb4.out.size;have hbL := hide (hb4.out.trans (((Below.refl w4.heap.size w4).alloc zR (.cells #[.int .i64 (-1)] 2)).mono hz4));have hOL := hide (hO4.out.alloc (.cells #[.int .i64 (-1)] 2));have hzL : wr.heap.size ≤ (w4.alloc (.cells #[.int .i64 (-1)] 2)).heap.size := by rw [World.size_alloc]; omega
    go_upto_region 8 with fail;clear m1;go_upto_region 9 with (first | (at_builtin; (with_reducible refine wpList_app rfl (.tmp 39) (.tmp 40) rfl hE.out flat_iv rfl hOL.out rfl (Sl.lit1' w4 2 (-1 : Int) _ rfl 1 _ ?c0) ?c1 hzL ?_); rotate_right; intro A7 c7 w7 hown7 hgr7 hb7 hat7))
    case c0 => rfl
    case c1 => omega
    have hs7 := hide (hown7.sl flat_iv);have hbX := hide (hbL.out.trans hb7);replace hown7 := hide hown7;replace hgr7 := hide hgr7;replace hat7 := hide hat7;replace hb7 := hide hb7;have hzX := hbX.out.size;have hbA : Below w7.heap.size w7 (w7.alloc (.cells #[.slice A7 (n4 + 1) c7] 32)) := bR.alloc zR _;have hGA := hide ((hG.out.below hbX.out).below hbA);have hza : w2.heap.size ≤ (w7.alloc (.cells #[.slice A7 (n4 + 1) c7] 32)).heap.size := by rw [World.size_alloc]; omega
    have hOa := hide hGA.out.own;have hown : Hid (∀ b off, 0 < (n4 + 1) → A7 = some ⟨b, off, none⟩ → (Value.slice A5 k c5).ownBlock ≠ some b) := fun b off hn e e2 => by
     obtain ⟨b', o', e', g1, -⟩ := hs7.out.at_ hn;rw [e] at e'
     cases e'
     have := (hG.out.own.lt _ e2).2;omega
    have hsA := hide ((hs7.out.below hbA (.inr zR)).more hz2r hbA.size);have hbF := hide ((hbX.out.mono hz2r).trans (hbA.mono (by omega)));clear hbA b0;go_wp2_with (first | (at_builtin; (with_reducible refine wpList_app rfl (.tmp 42) (.tmp 44) rfl hER.out flat_sv rfl hOa.out rfl (Sl.lit1' w7 32 ((A7, (n4 + 1), c7) : Hd) _ rfl 1 _ ?c0) ?c1 hza ?_); rotate_right; intro A6 c6 w6 hown6 hgr6 hb6 hat6))
    case c0 => rfl
    case c1 => omega
    have hG6 := hide (hGA.out.push hsA.out hown.out hown6 hgr6 hat6);have hb6' := hide (hbF.out.trans hb6);have hb6w := hide (hb.out.trans (hb6'.out.mono (show w.heap.size ≤ w2.heap.size by omega)));have hM6 : Hid (MkB w w6 N bl) := ⟨hM.out.1.below hb6'.out (.inl hz2), hM.out.2⟩;have hR6 : Hid (∀ r, r ∈ R ++ [((A7, (n4 + 1), c7), (l4 ++ [-1]))] → r.1.2.1 ≤ 1000) := fun r hr => by
     rcases List.mem_append.1 hr with hr | hr
     ·exact hRs.out r hr
     ·obtain rfl := List.mem_singleton.1 hr
      show (n4 + 1) ≤ 1000
      omega
    have hz26 : w2.heap.size ≤ w6.heap.size := Nat.le_trans hz2r hb6'.out.size;go_wp2_with fail;go_roundw
    case rel => exact ⟨k + 1, c6, A6, _, by omega, by go_num, rfl, hG6.out, hR6.out, hM6.out, hz26, hb6w.out⟩
    case measure => simp [intOf]; omega
   ·cases dv with
    | false =>
     have hzX := hb4.out.size;have hbA : Below w4.heap.size w4 (w4.alloc (.cells #[.slice A4 n4 c4] 32)) := bR.alloc zR _;have hGA := hide ((hG.out.below hb4.out).below hbA);have hza : w2.heap.size ≤ (w4.alloc (.cells #[.slice A4 n4 c4] 32)).heap.size := by rw [World.size_alloc]; omega
     have hOa := hide hGA.out.own;have hown : Hid (∀ b off, 0 < n4 → A4 = some ⟨b, off, none⟩ → (Value.slice A5 k c5).ownBlock ≠ some b) := fun b off hn e e2 => by
      obtain ⟨b', o', e', g1, -⟩ := hs4.out.at_ hn;rw [e] at e'
      cases e'
      have := (hG.out.own.lt _ e2).2;omega
     have hsA := hide ((hs4.out.below hbA (.inr zR)).more hz2r hbA.size);have hbF := hide ((hb4.out.mono hz2r).trans (hbA.mono (by omega)));clear hbA b0;go_wp2_with (first | (at_builtin; (with_reducible refine wpList_app rfl (.tmp 42) (.tmp 44) rfl hER.out flat_sv rfl hOa.out rfl (Sl.lit1' w4 32 ((A4, n4, c4) : Hd) _ rfl 1 _ ?c0) ?c1 hza ?_); rotate_right; intro A6 c6 w6 hown6 hgr6 hb6 hat6))
     case c0 => rfl
     case c1 => omega
     have hG6 := hide (hGA.out.push hsA.out hown.out hown6 hgr6 hat6);have hb6' := hide (hbF.out.trans hb6);have hb6w := hide (hb.out.trans (hb6'.out.mono (show w.heap.size ≤ w2.heap.size by omega)));have hM6 : Hid (MkB w w6 N bl) := ⟨hM.out.1.below hb6'.out (.inl hz2), hM.out.2⟩;have hR6 : Hid (∀ r, r ∈ R ++ [((A4, n4, c4), l4)] → r.1.2.1 ≤ 1000) := fun r hr => by
      rcases List.mem_append.1 hr with hr | hr
      ·exact hRs.out r hr
      ·obtain rfl := List.mem_singleton.1 hr
       show n4 ≤ 1000
       omega
     have hz26 : w2.heap.size ≤ w6.heap.size := Nat.le_trans hz2r hb6'.out.size;go_wp2_with fail;go_roundw
     case rel => exact ⟨k + 1, c6, A6, _, by omega, by go_num, rfl, hG6.out, hR6.out, hM6.out, hz26, hb6w.out⟩
     case measure => simp [intOf]; omega
    | true =>
     cases x with
     | true => exact absurd ⟨rfl, rfl⟩ hdx
     | false =>
      have hzX := hb4.out.size;have hbA : Below w4.heap.size w4 (w4.alloc (.cells #[.slice A4 n4 c4] 32)) := bR.alloc zR _;have hGA := hide ((hG.out.below hb4.out).below hbA);have hza : w2.heap.size ≤ (w4.alloc (.cells #[.slice A4 n4 c4] 32)).heap.size := by rw [World.size_alloc]; omega
      have hOa := hide hGA.out.own;have hown : Hid (∀ b off, 0 < n4 → A4 = some ⟨b, off, none⟩ → (Value.slice A5 k c5).ownBlock ≠ some b) := fun b off hn e e2 => by
       obtain ⟨b', o', e', g1, -⟩ := hs4.out.at_ hn;rw [e] at e'
       cases e'
       have := (hG.out.own.lt _ e2).2;omega
      have hsA := hide ((hs4.out.below hbA (.inr zR)).more hz2r hbA.size);have hbF := hide ((hb4.out.mono hz2r).trans (hbA.mono (by omega)));clear hbA b0;go_wp2_with (first | (at_builtin; (with_reducible refine wpList_app rfl (.tmp 42) (.tmp 44) rfl hER.out flat_sv rfl hOa.out rfl (Sl.lit1' w4 32 ((A4, n4, c4) : Hd) _ rfl 1 _ ?c0) ?c1 hza ?_); rotate_right; intro A6 c6 w6 hown6 hgr6 hb6 hat6))
      case c0 => rfl
      case c1 => omega
      have hG6 := hide (hGA.out.push hsA.out hown.out hown6 hgr6 hat6);have hb6' := hide (hbF.out.trans hb6);have hb6w := hide (hb.out.trans (hb6'.out.mono (show w.heap.size ≤ w2.heap.size by omega)));have hM6 : Hid (MkB w w6 N bl) := ⟨hM.out.1.below hb6'.out (.inl hz2), hM.out.2⟩;have hR6 : Hid (∀ r, r ∈ R ++ [((A4, n4, c4), l4)] → r.1.2.1 ≤ 1000) := fun r hr => by
       rcases List.mem_append.1 hr with hr | hr
       ·exact hRs.out r hr
       ·obtain rfl := List.mem_singleton.1 hr
        show n4 ≤ 1000
        omega
      have hz26 : w2.heap.size ≤ w6.heap.size := Nat.le_trans hz2r hb6'.out.size;go_wp2_with fail;go_roundw
      case rel => exact ⟨k + 1, c6, A6, _, by omega, by go_num, rfl, hG6.out, hR6.out, hM6.out, hz26, hb6w.out⟩
      case measure => simp [intOf]; omega
  ·have k1 : ¬ (k : Int) < (N : Int) := by omega
   obtain ⟨f, hRf⟩ : ∃ f, RowsTo f k R := rows_fun hG.out hRs.out;replace hRs := hide hRf;clear hRf;obtain rfl : k = N := by omega
   obtain ⟨N, rfl⟩ : ∃ N, N = k := ⟨_, rfl⟩;obtain ⟨wK, rfl⟩ : ∃ wK : World, wK = wr := ⟨_, rfl⟩;have hPK := hide (hAll.out wK hb.out).2.2;have hGK := hG;have hRK := hRs;have hbK := hb;have hzK := hbK.out.size;obtain ⟨RK, rfl⟩ : ∃ RK, RK = R := ⟨_, rfl⟩;obtain ⟨AK, rfl⟩ : ∃ AK, AK = A5 := ⟨_, rfl⟩;obtain ⟨cK, rfl⟩ : ∃ cK, cK = c5 := ⟨_, rfl⟩;obtain ⟨w8, hw8⟩ : ∃ w8, w8 = wK.alloc (.cells #[] 2) := ⟨_, rfl⟩;have hO8 : Hid (Own 1 iv w8 wK.heap.size 2 (some ⟨wK.heap.size, 0, none⟩) 0 0 []) := by show Own _ _ _ _ _ _ _ _ _; rw [hw8]; exact Own.made wK _ zR
   have hb8 : Hid (Below wK.heap.size wK w8) := by show Below _ _ _; rw [hw8]; exact bR.alloc zR _
   have hrp := hide (keyQ_part N p f);have hkey : Hid (∀ i j, i < N → j < N → (sameB (keyQ N p f) i j ↔ p[i]? = p[j]? ∧ f i = f j)) := fun i j hi hj => keyQ_key hi hj
   obtain ⟨r, hr⟩ : ∃ r, r = keyQ N p f := ⟨_, rfl⟩;rw [← hr] at hrp hkey;replace hr := hide hr;clear hb hG hRs;go_upto_region 11 with fail;rw [← show w8 = _ from hw8];replace hw8 := hide hw8;clear b0;go_wp2_with fail
   go_loopw [11, 12, 13] (fun v7 v8 v9 wr => ∃ (k c7 : Nat) (A7 : Option Addr), k ≤ N ∧ v9 = .int .i64 (k : Nat) ∧ v8 = .int .i64 (cntB r k : Nat) ∧ v7 = .slice A7 k c7 ∧ Hid (Own 1 iv wr wK.heap.size 2 A7 k c7 (r.take k)) ∧ Hid (Below wK.heap.size wK wr)) (fun _ _ v _ => N - (intOf v).toNat)
   case atStart => exact ⟨0, 0, _, Nat.zero_le _, rfl, rfl, rfl, hO8.out, hb8.out⟩
   case round =>
    clear hO8 hb8;obtain ⟨k, c7, A7, hk, rfl, rfl, rfl, hO7, hb⟩ := hrel;have hpl2 := hide hpl
    by_cases hlt : k < N
    ·have k0 : (0 : Int) ≤ (k : Int) := by omega
     have k1 : (k : Int) < (N : Int) := by omega
     obtain ⟨x, hx⟩ : ∃ x, r[k]? = some x := ⟨_, List.getElem?_eq_getElem (by rw [hrp.out.len]; exact hlt)⟩;have hnew := hide (new_or hrp.out.norm hx);have hcb : cntB r k ≤ k := cntB_le r k;replace hx := hide hx;obtain ⟨wO, rfl⟩ : ∃ wO : World, wO = wr := ⟨_, rfl⟩;have hbO := hb;have hOO := hO7;clear hb hO7;go_wp2_with fail
     go_loopw [14, 15] (fun v10 v11 wr => ∃ j : Nat, j ≤ k ∧ v11 = .int .i64 (j : Nat) ∧ Hid (Below wO.heap.size wO wr) ∧ Hid (FndR r x k j v10)) (fun _ v _ => k - (intOf v).toNat)
     case atStart => exact ⟨0, Nat.zero_le _, rfl, bR, .inl ⟨rfl, fun i hi => absurd hi (Nat.not_lt_zero i)⟩⟩
     case round =>
      obtain ⟨j, hj, rfl, hb2, hF⟩ := hrel;have j0 : (0 : Int) ≤ (j : Int) := by omega
      have hbW := hide (hbO.out.trans (hb2.out.mono hbO.out.size));have hO9 := hide (hOO.out.below hb2.out zR)
      rcases hF.out with ⟨rfl, hF2⟩ | ⟨rfl, hx0, hF2⟩
      ·replace hF2 := hide hF2
       by_cases hjk : j < k
       ·have j1 : (j : Int) < (k : Int) := by omega
        have j2 : (j : Int) < (N : Int) := by omega
        have hP2 := hPK.out.below hbW.out (.inr zR);have hG2 := hGK.out.below hbW.out;obtain ⟨gP, oP, pj, e1, -, -, hgP, hpj, cpj, -⟩ := SlI.get hP2 (show j < N by omega);obtain ⟨gP2, oP2, pk, e2, -, -, -, hpk, cpk, -⟩ := SlI.get hP2 hlt;subst e1;cases e2;obtain ⟨gR, oR, Aj, nj, cj, sj, e3, -, hgR, hRj, crj, hsj, -⟩ := hG2.get (show j < N by omega);obtain ⟨gR2, oR2, Ak, nk, ck, sk, e4, -, -, hRk, crk, hsk, -⟩ := hG2.get hlt;subst e3;cases e4;have hzW := hbW.out.size;have hnj := hRK.out.2 _ (List.mem_of_getElem? hRj);have hnk := hRK.out.2 _ (List.mem_of_getElem? hRk);have vsj := hRK.out.get (show j < N by omega) hRj;have vsk := hRK.out.get hlt hRk
        (try dsimp only at hnj hnk vsj vsk)
        obtain ⟨wD, hwD⟩ : ∃ wD, wD = wr.drew := ⟨_, rfl⟩;have hbD : Below wr.heap.size wr wD := by rw [hwD]; exact bR.drew
        have hq := hide (l00Same_calls Aj Ak nj nk cj ck sj sk wD _ _ _ _ (hsj.below hbD (.inr zR)) (hsk.below hbD (.inr zR)) (by omega) (by omega));have hSS : Hid (∀ wx, Below wD.heap.size wD wx → wx.cell? ⟨gP, oP + j, none⟩ = some (.int .i64 pj) ∧ wx.cell? ⟨gP, oP + k, none⟩ = some (.int .i64 pk) ∧ wx.cell? ⟨gR, oR + j, none⟩ = some (.slice Aj nj cj) ∧ wx.cell? ⟨gR, oR + k, none⟩ = some (.slice Ak nk ck)) := fun wx hx2 => by
         have hbx := hbD.trans (hx2.mono hbD.size);exact ⟨(hbx.cell (p := ⟨gP, oP + j, none⟩) hgP).trans cpj, (hbx.cell (p := ⟨gP, oP + k, none⟩) hgP).trans cpk, (hbx.cell (p := ⟨gR, oR + j, none⟩) hgR).trans crj, (hbx.cell (p := ⟨gR, oR + k, none⟩) hgR).trans crk⟩
        have hsame : Hid (sameB r j k ↔ pj = pk ∧ sj = sk) := by
         have := hkey.out j k (by omega) hlt;rw [hpj, hpk, ← vsj, ← vsk] at this
         show _ ↔ _
         rw [this];exact and_congr_left fun _ => ⟨fun h => Option.some.inj h, fun h => h ▸ rfl⟩
        have hjx : Hid (r[j]? = some x ↔ sameB r j k) := by
         show _ ↔ _
         unfold sameB;rw [hx.out]
        replace hbD := hide hbD;replace hwD := hide hwD;replace hpj := hide hpj;replace hpk := hide hpk;replace hRj := hide hRj;replace hRk := hide hRk;replace vsj := hide vsj;replace vsk := hide vsk;clear hP2 hG2 hsj hsk cpj cpk crj crk
        by_cases hpp : pj = pk
        ·subst hpp
         have g1 : (pj == pj) = true := by simp
         by_cases hss : sj = sk
         ·have hyes : Hid (r[j]? = some x) := hjx.out.2 (hsame.out.2 ⟨rfl, hss⟩)
          rw [decide_eq_true hss] at hq;go_upto_region 19 with fail;refine lateT_begin (S := fun w' => w'.cell? ⟨gP, oP + j, none⟩ = some (.int .i64 pj) ∧ w'.cell? ⟨gP, oP + k, none⟩ = some (.int .i64 pj) ∧ w'.cell? ⟨gR, oR + j, none⟩ = some (.slice Aj nj cj) ∧ w'.cell? ⟨gR, oR + k, none⟩ = some (.slice Ak nk ck)) (st := 19) (by kernel_rfl) ?_;rw [← show wD = _ from hwD.out];have hS0 : (fun w' : World => w'.cell? ⟨gP, oP + j, none⟩ = some (.int .i64 pj) ∧ w'.cell? ⟨gP, oP + k, none⟩ = some (.int .i64 pj) ∧ w'.cell? ⟨gR, oR + j, none⟩ = some (.slice Aj nj cj) ∧ w'.cell? ⟨gR, oR + k, none⟩ = some (.slice Ak nk ck)) wD := hSS.out wD bR;refine tkD 0 [2,3,8,9,19] hS0 ?_;refine tkD 1 [2,3,8,9,19] hS0 ?_;refine tkD 2 [3,8,9,19] hS0 ?_;refine tkD 3 [8,9,19] hS0 ?_;refine tkD 4 [6,7,8,9,19] hS0 ?_;refine tkD 5 [6,7,8,9,19] hS0 ?_;refine tkD 6 [7,8,9,19] hS0 ?_;refine tkD 7 [8,9,19] hS0 ?_;refine tkD 8 [9,19] hS0 ?_;refine tkD 9 [19] hS0 ?_;refine tkD 10 [12,13,18,19] hS0 ?_;refine tkD 11 [12,13,18,19] hS0 ?_;refine tkD 12 [13,18,19] hS0 ?_;refine tkD 13 [18,19] hS0 ?_;refine tkD 14 [16,17,18,19] hS0 ?_;refine tkD 15 [16,17,18,19] hS0 ?_;refine tkD 16 [17,18,19] hS0 ?_;refine tkD 17 [18,19] hS0 ?_;refine lS 18 fun K hK => ?_
          (try go_simp)
          go_at_call 165
          (with_reducible refine hq.out.mono ?_)
          rintro e w7 ⟨rfl, hb7⟩
          (try go_wp2_with fail)
          have hS1 := hSS.out w7 hb7;refine kP hK (fun _ => hS1) ?_;clear hK K;refine lS 19 fun K hK => ?_
          go_simp;refine kP hK nH ?_
          clear hK K;refine lateT_done (by kernel_rfl) ?_ _;have hb9 := hide (hb2.out.trans ((hbD.out.trans (hb7.mono hbD.out.size)).mono hb2.out.size));obtain ⟨gO, oO, hOv⟩ : ∃ gO oO, A7 = some ⟨gO, oO, none⟩ ∧ gO < wO.heap.size ∧ wO.cell? ⟨gO, oO + j, none⟩ = some (.int .i64 x) := by
           obtain ⟨b5, o5, v5, e5, -, -, g5, hv5, c5, -⟩ := SlI.get (hOO.out.sl flat_iv) hjk;rw [List.getElem?_take_of_lt hjk, hyes.out] at hv5
           cases hv5
           exact ⟨b5, o5, e5, g5, c5⟩
          obtain ⟨rfl, hgO, cO⟩ := hOv;have cO7 := (hb9.out.cell (p := ⟨gO, oO + j, none⟩) hgO).trans cO;have hx0 : Hid (0 ≤ x) := (part_lt hrp.out (List.mem_of_getElem? hx.out)).1;clear cO;go_wp2_with fail;go_roundw
          case rel => exact ⟨j + 1, by omega, by go_num, hb9.out, .inr ⟨rfl, hx0.out, j, hjk, hyes.out⟩⟩
          case measure => simp [intOf]; omega
         ·have hno : Hid (¬ r[j]? = some x) := fun h => hss (hsame.out.1 (hjx.out.1 h)).2
          rw [decide_eq_false hss] at hq;go_upto_region 19 with fail;refine lateT_begin (S := fun w' => w'.cell? ⟨gP, oP + j, none⟩ = some (.int .i64 pj) ∧ w'.cell? ⟨gP, oP + k, none⟩ = some (.int .i64 pj) ∧ w'.cell? ⟨gR, oR + j, none⟩ = some (.slice Aj nj cj) ∧ w'.cell? ⟨gR, oR + k, none⟩ = some (.slice Ak nk ck)) (st := 19) (by kernel_rfl) ?_;rw [← show wD = _ from hwD.out];have hS0 : (fun w' : World => w'.cell? ⟨gP, oP + j, none⟩ = some (.int .i64 pj) ∧ w'.cell? ⟨gP, oP + k, none⟩ = some (.int .i64 pj) ∧ w'.cell? ⟨gR, oR + j, none⟩ = some (.slice Aj nj cj) ∧ w'.cell? ⟨gR, oR + k, none⟩ = some (.slice Ak nk ck)) wD := hSS.out wD bR;refine tkD 0 [2,3,8,9,19] hS0 ?_;refine tkD 1 [2,3,8,9,19] hS0 ?_;refine tkD 2 [3,8,9,19] hS0 ?_;refine tkD 3 [8,9,19] hS0 ?_;refine tkD 4 [6,7,8,9,19] hS0 ?_;refine tkD 5 [6,7,8,9,19] hS0 ?_;refine tkD 6 [7,8,9,19] hS0 ?_;refine tkD 7 [8,9,19] hS0 ?_;refine tkD 8 [9,19] hS0 ?_;refine tkD 9 [19] hS0 ?_;refine tkD 10 [12,13,18,19] hS0 ?_;refine tkD 11 [12,13,18,19] hS0 ?_;refine tkD 12 [13,18,19] hS0 ?_;refine tkD 13 [18,19] hS0 ?_;refine tkD 14 [16,17,18,19] hS0 ?_;refine tkD 15 [16,17,18,19] hS0 ?_;refine tkD 16 [17,18,19] hS0 ?_;refine tkD 17 [18,19] hS0 ?_;refine lS 18 fun K hK => ?_
          (try go_simp)
          go_at_call 165
          (with_reducible refine hq.out.mono ?_)
          rintro e w7 ⟨rfl, hb7⟩
          (try go_wp2_with fail)
          have hS1 := hSS.out w7 hb7;refine kP hK (fun _ => hS1) ?_;clear hK K;refine lS 19 fun K hK => ?_
          go_simp;refine kP hK nH ?_
          clear hK K;refine lateT_done (by kernel_rfl) ?_ _;have hb9 := hide (hb2.out.trans ((hbD.out.trans (hb7.mono hbD.out.size)).mono hb2.out.size));go_wp2_with fail;go_roundw
          case rel => exact ⟨j + 1, by omega, by go_num, hb9.out, .inl ⟨rfl, fun i hi => by
           by_cases e : i < j
           ·exact hF2.out i e
           ·obtain rfl : i = j := by omega
            exact hno.out⟩⟩
          case measure => simp [intOf]; omega
        ·have g1 : (pj == pk) = false := beq_eq_false_iff_ne.2 hpp
         have hno : Hid (¬ r[j]? = some x) := fun h => hpp (hsame.out.1 (hjx.out.1 h)).1
         go_upto_region 19 with fail;refine lateT_begin (S := fun w' => w'.cell? ⟨gP, oP + j, none⟩ = some (.int .i64 pj) ∧ w'.cell? ⟨gP, oP + k, none⟩ = some (.int .i64 pk) ∧ w'.cell? ⟨gR, oR + j, none⟩ = some (.slice Aj nj cj) ∧ w'.cell? ⟨gR, oR + k, none⟩ = some (.slice Ak nk ck)) (st := 19) (by kernel_rfl) ?_;rw [← show wD = _ from hwD.out];have hS0 : (fun w' : World => w'.cell? ⟨gP, oP + j, none⟩ = some (.int .i64 pj) ∧ w'.cell? ⟨gP, oP + k, none⟩ = some (.int .i64 pk) ∧ w'.cell? ⟨gR, oR + j, none⟩ = some (.slice Aj nj cj) ∧ w'.cell? ⟨gR, oR + k, none⟩ = some (.slice Ak nk ck)) wD := hSS.out wD bR;refine tkD 0 [2,3,8,9,19] hS0 ?_;refine tkD 1 [2,3,8,9,19] hS0 ?_;refine tkD 2 [3,8,9,19] hS0 ?_;refine tkD 3 [8,9,19] hS0 ?_;refine tkD 4 [6,7,8,9,19] hS0 ?_;refine tkD 5 [6,7,8,9,19] hS0 ?_;refine tkD 6 [7,8,9,19] hS0 ?_;refine tkD 7 [8,9,19] hS0 ?_;refine tkD 8 [9,19] hS0 ?_;refine tkD 9 [19] hS0 ?_;refine tkC 10 [12,13,18,19] hS0 ?_;refine tkC 11 [12,13,18,19] hS0 ?_;refine tkC 12 [13,18,19] hS0 ?_;refine tkC 13 [18,19] hS0 ?_;refine tkC 14 [16,17,18,19] hS0 ?_;refine tkC 15 [16,17,18,19] hS0 ?_;refine tkC 16 [17,18,19] hS0 ?_;refine tkC 17 [18,19] hS0 ?_;refine tkC 18 [19] hS0 ?_;refine lS 19 fun K hK => ?_
         go_simp;refine kP hK nH ?_
         clear hK K;refine lateT_done (by kernel_rfl) ?_ _;have hb9 := hide (hb2.out.trans (hbD.out.mono hb2.out.size));go_wp2_with fail;go_roundw
         case rel => exact ⟨j + 1, by omega, by go_num, hb9.out, .inl ⟨rfl, fun i hi => by
          by_cases e : i < j
          ·exact hF2.out i e
          ·obtain rfl : i = j := by omega
           exact hno.out⟩⟩
         case measure => simp [intOf]; omega
       ·obtain rfl : j = k := by omega
        have hxe : x = (cntB r j : Nat) ∧ cntB r (j + 1) = cntB r j + 1 := by
         rcases hnew.out with ⟨_, _, i, hi, h⟩ | ⟨h1, h2, _⟩
         ·exact absurd h (hF2.out i hi)
         ·exact ⟨h1, h2⟩
        have hzr := hbW.out.size;have hza : wK.heap.size ≤ (wr.alloc (.cells #[.int .i64 (cntB r j : Nat)] 2)).heap.size := by rw [World.size_alloc]; omega
        have hOa := hide (hO9.out.alloc (.cells #[.int .i64 (cntB r j : Nat)] 2));have hta : Hid (r.take (j + 1) = r.take j ++ [(cntB r j : Int)]) := by
         show _ = _
         rw [List.take_add_one, hx.out, hxe.1]; rfl
        have hcs : cntB r (j + 1) = cntB r j + 1 := hxe.2;replace hxe := hide hxe;have i1 : ¬ (j : Int) < (j : Int) := by omega
        have i2 : IntKind.i64.wrap ((cntB r j : Int) + 1) = ((cntB r j + 1 : Nat) : Int) := by rw [IntWalk.i64_in _ (by omega)]; omega
        go_wp2_with (first | (at_builtin; (with_reducible refine wpList_app rfl (.tmp 91) (.tmp 93) rfl hE.out flat_iv rfl hOa.out rfl (Sl.lit1' wr 2 (cntB r j : Int) _ rfl 1 _ ?c0) ?c1 hza ?_); rotate_right; intro A6 c6 w6 hown6 hgr6 hb6 hat6))
        case c0 => rfl
        case c1 => omega
        rw [← hta.out] at hown6;have hb10 := hide ((hbW.out.alloc hzr (.cells #[.int .i64 (cntB r j : Nat)] 2)).trans (hb6.mono (by omega)));go_wp2_with fail;go_roundw
        case rel => exact ⟨j + 1, c6, A6, by omega, by go_num, by rw [hcs]; (try go_num), rfl, hown6, hb10.out⟩
        case measure => simp [intOf]; omega
      ·have hcs : cntB r (k + 1) = cntB r k := by
        rcases hnew.out with ⟨_, h2, _⟩ | ⟨_, _, h3⟩
        ·exact h2
        ·obtain ⟨i, hi, h⟩ := hF2
         exact absurd h (h3 i hi)
       replace hF2 := hide hF2;have hzr := hbW.out.size;have hza : wK.heap.size ≤ (wr.alloc (.cells #[.int .i64 x] 2)).heap.size := by rw [World.size_alloc]; omega
       have hOa := hide (hO9.out.alloc (.cells #[.int .i64 x] 2));have hta : Hid (r.take (k + 1) = r.take k ++ [x]) := by
        show _ = _
        rw [List.take_add_one, hx.out]; rfl
       have i1 : ¬ x < 0 := by omega
       by_cases hjk : j < k
       all_goals
        go_wp2_with (first | (at_builtin; (with_reducible refine wpList_app rfl (.tmp 91) (.tmp 93) rfl hE.out flat_iv rfl hOa.out rfl (Sl.lit1' wr 2 x _ rfl 1 _ ?c0) ?c1 hza ?_); rotate_right; intro A6 c6 w6 hown6 hgr6 hb6 hat6))
        case c0 => rfl
        case c1 => omega
        rw [← hta.out] at hown6;have hb10 := hide ((hbW.out.alloc hzr (.cells #[.int .i64 x] 2)).trans (hb6.mono (by omega)));go_wp2_with fail;go_roundw
        case rel => exact ⟨k + 1, c6, A6, by omega, by go_num, by rw [hcs], rfl, hown6, hb10.out⟩
        case measure => simp [intOf]; omega
    ·obtain rfl : k = N := by omega
     have hF := hide (hO7.out.sl flat_iv);have hlast : Hid (r.take k = r) := List.take_of_length_le (by rw [hrp.out.len]; exact zR);rw [hlast.out, hr.out] at hF;have hbF := hide (hbK.out.trans (hb.out.mono hzK));have i1 : ¬ (k : Int) < (k : Int) := by omega
     clear hO7;go_wp2_with fail;go_ret;exact ⟨A7, ⟨c7, rfl⟩, ⟨_, hF.out.more hzK zR, keyQ_part _ p f, fun i j hi hj hs => ((keyQ_key hi hj).1 hs).1⟩, hbF.out⟩
def PartTo (w w' : World) (Q : Option Addr) (N : Nat) : Prop := ∃ q, SlI w' w.heap.size w'.heap.size Q N q ∧ PartN N q
theorem finer_more {N : Nat} {p q : List Int} (hp : PartN N p) (hq : PartN N q) (hf : ∀ i j, i < N → j < N → sameB q i j → sameB p i j) (hne : q ≠ p) : numB p + 1 ≤ numB q := by
 obtain ⟨h1, h2⟩ := numB_fine (p := p) (q := q) (by rw [hp.len, hq.len]) (fun i j hi hj => hf i j (by rw [hp.len] at hi; exact hi) (by rw [hp.len] at hj; exact hj))
 by_cases e : numB p = numB q
 ·refine absurd (part_ext hq hp fun i j hi hj => ⟨hf i j hi hj, fun hs => ?_⟩) hne
  exact h2 e i j (by rw [hp.len]; exact hi) (by rw [hp.len]; exact hj) hs
 ·omega
theorem l15Part_calls {w : World} {N ini : Nat} {A : Option Addr} {n : Nat} {B : Option Addr} {m : Nat} {ls : List ByteArray} {es : List Ed} (h : SysA w N ini A n B m ls es) (c d bx : Nat) (hbx : LtsBox w bx (N : Int) (ini : Int) A n c B m d) (dv : Bool) :
  Calls Tryz.prog 83 #[.pointer (some ⟨bx, 0, none⟩), .bool dv] w fun e w' => ∃ Q cQ, e = .returned (.slice Q N cQ) ∧ PartTo w w' Q N ∧ Below w.heap.size w w' := by
 obtain ⟨⟨hN1, hN2⟩, hini⟩ := h.bounds;have hmk := run_make_int N (by omega);have b0 := hbx.c0;have hAll : ∀ wx, Below w.heap.size w wx → SysA wx N ini A n B m ls es ∧ LtsBox wx bx (N : Int) (ini : Int) A n c B m d := fun wx hx => ⟨h.below hx zR, hbx.below hx hbx.lt⟩
 replace hAll := hide hAll;obtain ⟨w1, hw1⟩ : ∃ w1, w1 = w.alloc (.cells (madeCells #[.int .i64 0] N) 2) := ⟨_, rfl⟩;have hb1 : Hid (Below w.heap.size w w1) := by show Below _ _ _; rw [hw1]; exact bR.alloc zR _
 have hs1 : Hid (SlI w1 w.heap.size w1.heap.size (some ⟨w.heap.size, 0, none⟩) N (rndP es N 0)) := by
  show Sl _ _ _ _ _ _ _ _
  rw [hw1];exact (made_zeroP w N).more zR (by rw [World.size_alloc]; exact zR)
 have hp0 := hide (rnd_part (es := es) (N := N) 0);clear h hbx;go_enter Tryz.func83, Tryz.ntmps83;go_upto_region 2 with fail;rw [← show w1 = _ from hw1];replace hw1 := hide hw1;clear b0
 go_loopg [5] (N + 1) (fun G v5 wr => ∃ (c5 : Nat) (A5 : Option Addr) (p : List Int), v5 = .slice A5 N c5 ∧ Hid (SlI wr w.heap.size wr.heap.size A5 N p) ∧ Hid (PartN N p) ∧ Hid (N + 1 ≤ G + numB p) ∧ Hid (Below w.heap.size w wr))
 case atStart => exact ⟨_, _, _, rfl, hs1.out, hp0.out, Nat.le_add_right _ _, hb1.out⟩
 case round =>
  clear hs1 hb1 hp0;obtain ⟨c5, A5, p, rfl, hO, hp, hG, hb⟩ := hrel;obtain ⟨hSy, hBr⟩ := hAll.out wr hb.out;have hzr := hb.out.size;have hle := numB_le p;rw [hp.out.len] at hle;have hG1 := hG.out;obtain ⟨G2, rfl⟩ : ∃ G2, gk = G2 + 1 := ⟨gk - 1, by omega⟩;have qR := hide (l15Refine_calls hSy c d bx hBr A5 c5 _ hO.out.here' (fun x hx => by have := hp.out.range x hx; omega) dv);clear hSy hBr hG1;go_wp2_with fail;refine qR.out.mono ?_;rintro e w4 ⟨A4, c4, rfl, hF, hb4⟩;obtain ⟨q, hO4, hq, hf⟩ := hF;have hz4 := hb4.size;have hO5 := hide (hO.out.below hb4 (.inr zR));have qE := l00Same_calls A4 A5 N N c4 c5 q p w4 _ _ _ _ hO4 hO5.out (by omega) (by omega);have hmore := hide (finer_more hp.out hq hf);replace hO4 := hide hO4;replace hb4 := hide hb4;replace hf := hide hf;replace hq := hide hq;clear qR
  by_cases heq : q = p
  ·rw [decide_eq_true heq] at qE
   replace qE := hide qE;replace heq := hide heq;go_wp2_with fail;refine qE.out.mono ?_;rintro e w5 ⟨rfl, hb5⟩;have hbF := hide (hb.out.trans ((hb4.out.trans (hb5.mono hz4)).mono hzr));have hOF := hide (((hO5.out.below hb5 (.inr (by have := hb5.size; exact zR)))).more zR (Nat.le_trans hz4 hb5.size));go_wp2_with fail;go_ret;exact ⟨A5, c5, rfl, ⟨p, hOF.out, hp.out⟩, hbF.out⟩
  ·rw [decide_eq_false heq] at qE
   replace qE := hide qE;have hG2 : Hid (N + 1 ≤ G2 + numB q) := by
    have h1 := hmore.out heq;have h2 := hG.out
    show _ ≤ _
    omega
   clear heq;go_wp2_with fail;refine qE.out.mono ?_;rintro e w5 ⟨rfl, hb5⟩;have hbF := hide (hb.out.trans ((hb4.out.trans (hb5.mono hz4)).mono hzr));have hOF := hide ((hO4.out.below hb5 (.inr zR)).more hzr hb5.size);clear qE;go_wp2_with fail
   go_roundg G2
   case rel => exact ⟨c4, A4, q, rfl, hOF.out, hq.out, hG2.out, hbF.out⟩
   case measure => exact Nat.lt_succ_self _
end Go.Proofs.YtnhomkmfbngmgaaGreatDoor
namespace Go.Proofs.YtnhomkmfbngmgaaGreatDoor
open Go.ChangeShapes Go.WideShapes Go.ChangeAt Go.RowKit Go.Sort
theorem SysA.atK {w : World} {N ini : Nat} {A : Option Addr} {n : Nat} {B : Option Addr} {m : Nat} {ls : List ByteArray} {es : List Ed} (h : SysA w N ini A n B m ls es) {c d bx : Nat} (hbx : LtsBox w bx (N : Int) (ini : Int) A n c B m d) : LtsAt w bx ((N : Int), (ini : Int), .slice A n c, .slice B m d) ((N : Int), (ini : Int), ls, es) :=
 ⟨(h.read c d).1, (h.read c d).2, hbx.lt, hbx.c0, hbx.c1, hbx.c2, hbx.c3⟩
section
variable {w : World} {N ini : Nat} {A : Option Addr} {n : Nat} {B : Option Addr} {m : Nat} {ls : List ByteArray} {es : List Ed}
theorem l13Least_calls (h : SysA w N ini A n B m ls es) (c d bx : Nat) (hbx : LtsBox w bx (N : Int) (ini : Int) A n c B m d) (hnam : NamD ls) (hn8 : n ≤ 8) (hm8 : m ≤ 200) :
  Calls Tryz.prog 93 #[.pointer (some ⟨bx, 0, none⟩)] w (DrawnT 9 (m + N) N w) := by
 obtain ⟨⟨hN1, hN2⟩, hini⟩ := h.bounds;have hb0 := (Below.refl w.heap.size w).alloc zR (.cells #[.int .i64 0, .int .i64 0, .slice none 0 0, .slice none 0 0] 27);have hr0 : LtsBox (w.alloc (.cells #[.int .i64 0, .int .i64 0, .slice none 0 0, .slice none 0 0] 27)) w.heap.size 0 0 none 0 0 none 0 0 := heap_alloc_new w _;obtain ⟨w1, hw1⟩ : ∃ w1, w1 = w.alloc (.cells #[.int .i64 0, .int .i64 0, .slice none 0 0, .slice none 0 0] 27) := ⟨_, rfl⟩;rw [← hw1] at hb0 hr0;have hz1 : w1.heap.size = w.heap.size + 1 := by rw [hw1, World.size_alloc]
 have h1 := h.below hb0 zR;have x1 := hbx.below hb0 hbx.lt;have q1 := l11Reach_calls bx _ _ w1 (h1.atK x1) h.ok;dsimp only at q1;rw [Int.toNat_natCast] at q1;replace q1 := hide q1;have h1h := hide h1;have x1h := hide x1;have hr := hide hr0;have hb1 := hide hb0;obtain ⟨hz1a, hz1b⟩ : w1.heap.size ≤ w.heap.size + 1 ∧ w.heap.size + 1 ≤ w1.heap.size := ⟨by omega, by omega⟩;clear h hbx h1 x1 hr0 hb0 hz1;go_enter Tryz.func93, Tryz.ntmps93;go_upto_region 1 with fail;rw [← hw1];replace hw1 := hide hw1;go_wp2_with fail;refine q1.out.mono ?_;rintro e w2 ⟨P, q, cP, rfl, hR, hq40, hb2⟩;have x2 := x1h.out.below hb2 x1h.out.lt;have hRl := hide hR.len;have q2 := hide (l11Keep_calls (h1h.out.below hb2 zR) c d bx x2 P q cP _ (hR.more (Nat.zero_le _) zR) reach_up hq40 (reach_ini hini));have hb2h := hide hb2;clear q1 hR hb2 x2;go_wp2_with fail;refine q2.out.mono ?_;rintro e w3 ⟨i0, A2, c2, A3, n3, c3, rfl, hsK, hb3⟩;have hmK := hsK.many;have hqN : q ≤ N := by have := reach_len (N := N) (es := es) (ini := (ini : Int)); have := hRl.out; omega
 have hkl := keep_len (S := reachF N es (ini : Int)) (es := es);have hml := h1h.out.many;have hB := hsK.box (c := c2) (d := c3);obtain ⟨w4, hw4⟩ : ∃ w4, w4 = w3.alloc (ltsC q i0 A2 n c2 A3 n3 c3) := ⟨_, rfl⟩;rw [← hw4] at hB;have hb3h := hide hb3;obtain ⟨bK, hbK⟩ : ∃ bK, bK = w3.heap.size := ⟨_, rfl⟩;have xK : LtsBox w4 bK (q : Int) (i0 : Int) A2 n c2 A3 n3 c3 := by rw [hbK]; exact hB.box
 have q3 := hide (l13Part_calls hB.sys c2 c3 bK xK);have hb14 := hide ((hb2h.out.trans (hb3.mono hb2h.out.size)).trans (hB.bel.mono (by have := hb2h.out.size; have := hb3.size; omega)));have hBs := hide hB.sys;have xKh := hide xK;clear q2 hb3 hB xK hsK;go_upto_region 2 with fail;rw [← show w4 = w3.alloc (.cells #[.int .i64 (q : Int), .int .i64 (i0 : Int), .slice A2 n c2, .slice A3 n3 c3] 27) from hw4, ← hbK];replace hw4 := hide hw4;replace hbK := hide hbK;go_wp2_with fail;refine q3.out.mono ?_;rintro e w5 ⟨r, Q, cQ, rfl, hL, hQ, hb5⟩;have hpr := rnd_part (es := keepF (reachF N es (ini : Int)) es) (N := q) r;have hnb := numB_le (rndP (keepF (reachF N es (ini : Int)) es) q r);rw [hpr.len] at hnb;have q4 := hide (l13QuotientP_calls (hBs.out.below hb5 zR) c2 c3 bK (xKh.out.below hb5 xKh.out.lt) Q cQ _ (hQ.more (Nat.zero_le _) zR) (fun x hx => by have := part_lt hpr hx; omega) hnam hn8 (by omega));have hb15 := hide (hb14.out.trans (hb5.mono hb14.out.size));clear q3 hL hQ hb5 hpr;go_wp2_with fail;refine q4.out.mono ?_;rintro e w6 ⟨st, i4, A4, n4, c4, B4, m4, d4, ls4, es4, rfl, hA4, hB4, hv4, s1, s2, s3, hnm4, hb6⟩;have hb16 := hide (hb15.out.trans (hb6.mono hb15.out.size));have h8 : LtsBox w6 w.heap.size 0 0 none 0 0 none 0 0 := hr.out.below hb16.out (by omega);have a0 := h8.c0;have a1 := h8.c1;have a2 := h8.c2;have a3 := h8.c3;have z0 := h8.f0;have z1 := h8.f1;have z2 := h8.f2;have z3 := h8.f3;have hz15 := hb15.out.size;have hbF := hide (hb1.out.trans (hb16.out.mono hb1.out.size));replace hA4 := hide hA4;replace hB4 := hide hB4;replace hv4 := hide hv4;replace hnm4 := hide hnm4;clear q4 hb6 h8;go_wp2_with fail
 (try simp only [Exit.inBlock, Exit.then])
 refine bodyPost_ret_by (v := .agg #[.int .i64 (st : Int), .int .i64 (i4 : Int), .slice A4 n4 c4, .slice B4 m4 d4]) ?_ rfl ?_
 focus
  rw [results_cell1 rfl];go_simp
 exact drawnT_put (w5 := w5) hA4.out hB4.out hv4.out (by omega) (by omega) s3 hnm4.out (by omega) hbF.out _ _ _ _
theorem l15Least_calls (h : SysA w N ini A n B m ls es) (c d bx : Nat) (hbx : LtsBox w bx (N : Int) (ini : Int) A n c B m d) (dv : Bool) (hnam : NamD ls) (hn8 : n ≤ 8) (hm8 : m ≤ 200) :
  Calls Tryz.prog 91 #[.pointer (some ⟨bx, 0, none⟩), .bool dv] w (DrawnT 9 (m + N) N w) := by
 obtain ⟨⟨hN1, hN2⟩, hini⟩ := h.bounds;have hb0 := (Below.refl w.heap.size w).alloc zR (.cells #[.int .i64 0, .int .i64 0, .slice none 0 0, .slice none 0 0] 27);have hr0 : LtsBox (w.alloc (.cells #[.int .i64 0, .int .i64 0, .slice none 0 0, .slice none 0 0] 27)) w.heap.size 0 0 none 0 0 none 0 0 := heap_alloc_new w _;obtain ⟨w1, hw1⟩ : ∃ w1, w1 = w.alloc (.cells #[.int .i64 0, .int .i64 0, .slice none 0 0, .slice none 0 0] 27) := ⟨_, rfl⟩;rw [← hw1] at hb0 hr0;have hz1 : w1.heap.size = w.heap.size + 1 := by rw [hw1, World.size_alloc]
 have h1 := h.below hb0 zR;have x1 := hbx.below hb0 hbx.lt;have q1 := l11Reach_calls bx _ _ w1 (h1.atK x1) h.ok;dsimp only at q1;rw [Int.toNat_natCast] at q1;replace q1 := hide q1;have h1h := hide h1;have x1h := hide x1;have hr := hide hr0;have hb1 := hide hb0;obtain ⟨hz1a, hz1b⟩ : w1.heap.size ≤ w.heap.size + 1 ∧ w.heap.size + 1 ≤ w1.heap.size := ⟨by omega, by omega⟩;clear h hbx h1 x1 hr0 hb0 hz1;go_enter Tryz.func91, Tryz.ntmps91;go_upto_region 1 with fail;rw [← hw1];replace hw1 := hide hw1;go_wp2_with fail;refine q1.out.mono ?_;rintro e w2 ⟨P, q, cP, rfl, hR, hq40, hb2⟩;have x2 := x1h.out.below hb2 x1h.out.lt;have hRl := hide hR.len;have q2 := hide (l11Keep_calls (h1h.out.below hb2 zR) c d bx x2 P q cP _ (hR.more (Nat.zero_le _) zR) reach_up hq40 (reach_ini hini));have hb2h := hide hb2;clear q1 hR hb2 x2;go_wp2_with fail;refine q2.out.mono ?_;rintro e w3 ⟨i0, A2, c2, A3, n3, c3, rfl, hsK, hb3⟩;have hmK := hsK.many;have hqN : q ≤ N := by have := reach_len (N := N) (es := es) (ini := (ini : Int)); have := hRl.out; omega
 have hkl := keep_len (S := reachF N es (ini : Int)) (es := es);have hml := h1h.out.many;have hB := hsK.box (c := c2) (d := c3);obtain ⟨w4, hw4⟩ : ∃ w4, w4 = w3.alloc (ltsC q i0 A2 n c2 A3 n3 c3) := ⟨_, rfl⟩;rw [← hw4] at hB;have hb3h := hide hb3;obtain ⟨bK, hbK⟩ : ∃ bK, bK = w3.heap.size := ⟨_, rfl⟩;have xK : LtsBox w4 bK (q : Int) (i0 : Int) A2 n c2 A3 n3 c3 := by rw [hbK]; exact hB.box
 have q3 := hide (l15Part_calls hB.sys c2 c3 bK xK dv);have hb14 := hide ((hb2h.out.trans (hb3.mono hb2h.out.size)).trans (hB.bel.mono (by have := hb2h.out.size; have := hb3.size; omega)));have hBs := hide hB.sys;have xKh := hide xK;clear q2 hb3 hB xK hsK;go_upto_region 2 with fail;rw [← show w4 = w3.alloc (.cells #[.int .i64 (q : Int), .int .i64 (i0 : Int), .slice A2 n c2, .slice A3 n3 c3] 27) from hw4, ← hbK];replace hw4 := hide hw4;replace hbK := hide hbK;go_wp2_with fail;refine q3.out.mono ?_;rintro e w5 ⟨Q, cQ, rfl, ⟨qq, hQ, hpr⟩, hb5⟩;have hnb := numB_le qq;rw [hpr.len] at hnb;have q4 := hide (l15QuotientP_calls (hBs.out.below hb5 zR) c2 c3 bK (xKh.out.below hb5 xKh.out.lt) Q cQ _ (hQ.more (Nat.zero_le _) zR) (fun x hx => by have := part_lt hpr hx; omega) hnam hn8 (by omega) dv);have hb15 := hide (hb14.out.trans (hb5.mono hb14.out.size));clear q3 hQ hb5 hpr;go_wp2_with fail;refine q4.out.mono ?_;rintro e w6 ⟨st, i4, A4, n4, c4, B4, m4, d4, ls4, es4, rfl, hA4, hB4, hv4, s1, s2, s3, hnm4, hb6⟩;have hb16 := hide (hb15.out.trans (hb6.mono hb15.out.size));have h8 : LtsBox w6 w.heap.size 0 0 none 0 0 none 0 0 := hr.out.below hb16.out (by omega);have a0 := h8.c0;have a1 := h8.c1;have a2 := h8.c2;have a3 := h8.c3;have z0 := h8.f0;have z1 := h8.f1;have z2 := h8.f2;have z3 := h8.f3;have hz15 := hb15.out.size;have hbF := hide (hb1.out.trans (hb16.out.mono hb1.out.size));replace hA4 := hide hA4;replace hB4 := hide hB4;replace hv4 := hide hv4;replace hnm4 := hide hnm4;clear q4 hb6 h8;go_wp2_with fail
 (try simp only [Exit.inBlock, Exit.then])
 refine bodyPost_ret_by (v := .agg #[.int .i64 (st : Int), .int .i64 (i4 : Int), .slice A4 n4 c4, .slice B4 m4 d4]) ?_ rfl ?_
 focus
  rw [results_cell1 rfl];go_simp
 exact drawnT_put (w5 := w5) hA4.out hB4.out hv4.out (by omega) (by omega) s3 hnm4.out (by omega) hbF.out _ _ _ _
end
end Go.Proofs.YtnhomkmfbngmgaaGreatDoor
