/-
  Lemmas that the law of this claim leans on. Conditions: sizes.
-/
import Derived.Test.YtnhomkmfbngmgaaGreatDoorBaseA
import Derived.Test.YtnhomkmfbngmgaaGreatDoorBaseC
import Derived.Test.YtnhomkmfbngmgaaGreatDoorBaseD
import Derived.Test.YtnhomkmfbngmgaaGreatDoorBaseF
import Derived.Test.YtnhomkmfbngmgaaGreatDoorBaseG
import Derived.Test.YtnhomkmfbngmgaaGreatDoorBaseI
import Derived.Test.YtnhomkmfbngmgaaGreatDoorBaseJ
import Derived.Ground.SlsfProg
import Derived.Shelf.SlSortCmp.NoneTotal
import Derived.Sort.EncStr
import Derived.Shelf.SlGeneric
import Derived.Test.YtnhomkmfbngmgaaGreatDoorProg
import Derived.Deep.RegionLaw
import Derived.Deep.LoopGhost
import Derived.Deep.RegionHeld3
set_option maxHeartbeats 12800000
set_option maxRecDepth 100000
set_option linter.unusedSimpArgs false
set_option linter.unusedVariables false
namespace Go.Proofs.YtnhomkmfbngmgaaGreatDoor
open Go.ChangeShapes Go.WideShapes Go.ChangeAt Go.RowKit Go.Sort Go.Lib
theorem GrowH.made (w : World) : GrowH (w.alloc (.cells #[] 32)) w.heap.size (some ⟨w.heap.size, 0, none⟩) 0 0 [] := ⟨Own.made w _ zR, fun _ h => (List.not_mem_nil h).elim, fun _ h => (List.not_mem_nil h).elim⟩
def RowsTo (f : Nat → List Int) (k : Nat) (R : List (Hd × List Int)) : Prop := R.map (·.2) = (List.range k).map f ∧ ∀ r, r ∈ R → r.1.2.1 ≤ 1000
theorem RowsTo.get {f : Nat → List Int} {k : Nat} {R : List (Hd × List Int)} (h : RowsTo f k R) {i : Nat} (hi : i < k) {x : Hd} {s : List Int} (hr : R[i]? = some (x, s)) : s = f i := by
 have h1 : (R.map (·.2))[i]? = some s := by rw [List.getElem?_map, hr]; rfl
 rw [h.1, List.getElem?_map, List.getElem?_range hi] at h1;exact (Option.some.inj h1).symm
theorem RowsTo.push {f : Nat → List Int} {k : Nat} {R : List (Hd × List Int)} (h : RowsTo f k R) {x : Hd} {s : List Int} (hs : s = f k) (hx : x.2.1 ≤ 1000) : RowsTo f (k + 1) (R ++ [(x, s)]) := by
 refine ⟨by rw [List.map_append, h.1, List.range_succ, List.map_append, hs]; rfl, fun r hr => ?_⟩
 rcases List.mem_append.1 hr with hr | hr
 ·exact h.2 r hr
 ·obtain rfl := List.mem_singleton.1 hr
  exact hx
def FndR (r : List Int) (x : Int) (k j : Nat) (v : Value) : Prop := (v = .int .i64 (-1) ∧ ∀ i, i < j → ¬ r[i]? = some x) ∨ (v = .int .i64 x ∧ 0 ≤ x ∧ ∃ i, i < k ∧ r[i]? = some x)
theorem cntB_le (r : List Int) (k : Nat) : cntB r k ≤ k := by
 have h := firsts_len_le [] (r.take k);rw [List.length_take] at h;simp only [List.length_nil] at h;unfold cntB;omega
theorem l13Refine_calls {w : World} {N ini : Nat} {A : Option Addr} {n : Nat} {B : Option Addr} {m : Nat} {ls : List ByteArray} {es : List Ed} (h : SysA w N ini A n B m ls es) (c d bx : Nat) (hbx : LtsBox w bx (N : Int) (ini : Int) A n c B m d) (P : Option Addr) (cP : Nat) (p : List Int) (hP : SlI w 0 w.heap.size P N p) (hp : ∀ x, x ∈ p → 0 ≤ x ∧ x ≤ 1000) :
  Calls Tryz.prog 167 #[.pointer (some ⟨bx, 0, none⟩), .slice P N cP] w fun e w' => ∃ Q cQ, e = .returned (.slice Q N cQ) ∧ SlI w' w.heap.size w'.heap.size Q N (refF es N p) ∧ Below w.heap.size w w' := by
 have hER := hide elem_rowI;have hE := hide elem_int64;have hpl := hP.len;obtain ⟨⟨hN1, hN2⟩, hini⟩ := h.bounds;have hAll : ∀ wx, Below w.heap.size w wx → SysA wx N ini A n B m ls es ∧ LtsBox wx bx (N : Int) (ini : Int) A n c B m d ∧ SlI wx 0 w.heap.size P N p := fun wx hx => ⟨h.below hx zR, hbx.below hx hbx.lt, hP.below hx (.inl zR)⟩
 replace hAll := hide hAll;have hbl := hbx.lt;clear h hP hbx;obtain ⟨w1, hw1⟩ : ∃ w1, w1 = w.alloc (.cells #[] 32) := ⟨_, rfl⟩;have hb1 : Hid (Below w.heap.size w w1) := by show Below _ _ _; rw [hw1]; exact bR.alloc zR _
 have hg0 : Hid (GrowH w1 w.heap.size (some ⟨w.heap.size, 0, none⟩) 0 0 []) := by show GrowH _ _ _ _ _ _; rw [hw1]; exact GrowH.made w
 go_enter Tryz.func167, Tryz.ntmps167;go_upto_region 2 with fail;rw [← show w1 = _ from hw1];replace hw1 := hide hw1;go_wp2_with fail
 go_loopw [5, 6] (fun v5 v6 wr => ∃ (k c5 : Nat) (A5 : Option Addr) (R : List (Hd × List Int)), k ≤ N ∧ v6 = .int .i64 (k : Nat) ∧ v5 = .slice A5 k c5 ∧ Hid (GrowH wr w.heap.size A5 k c5 R) ∧ Hid (RowsTo (fun k => sgF N p es (k : Int)) k R) ∧ Hid (Below w.heap.size w wr)) (fun _ v _ => N - (intOf v).toNat)
 case atStart => exact ⟨0, 0, _, _, Nat.zero_le _, rfl, rfl, hg0.out, ⟨rfl, fun r hr => (List.not_mem_nil hr).elim⟩, hb1.out⟩
 case round =>
  clear hg0 hb1;obtain ⟨k, c5, A5, R, hk, rfl, rfl, hG, hRs, hb⟩ := hrel;have b0 := (hAll.out wr hb.out).2.1.c0
  by_cases hlt : k < N
  ·obtain ⟨hSy, hBr, hPr⟩ := hAll.out wr hb.out
   have k0 : (0 : Int) ≤ (k : Int) := by omega
   have k1 : (k : Int) < (N : Int) := by omega
   have hzr := hb.out.size;have q := hide (l13Sign_calls hSy c d bx hBr P cP p hPr.here' hp (k : Int));clear hSy hBr hPr;go_upto_region 5 with fail;go_wp2_with fail;refine q.out.mono ?_;rintro e w4 ⟨A4, n4, c4, rfl, hO4, hn4, hb4⟩;have hz4 := hb4.size;have hbA : Below w4.heap.size w4 (w4.alloc (.cells #[.slice A4 n4 c4] 32)) := bR.alloc zR _;have hGA := hide ((hG.out.below hb4).below hbA);have hza : w.heap.size ≤ (w4.alloc (.cells #[.slice A4 n4 c4] 32)).heap.size := by rw [World.size_alloc]; omega
   have hOa := hide hGA.out.own;have hown : Hid (∀ b off, 0 < n4 → A4 = some ⟨b, off, none⟩ → (Value.slice A5 k c5).ownBlock ≠ some b) := fun b off hn e e2 => by
    obtain ⟨b', o', e', g1, -⟩ := hO4.at_ hn;rw [e] at e'
    cases e'
    have := (hG.out.own.lt _ e2).2;omega
   have hsA := hide ((hO4.below hbA (.inr zR)).more hzr hbA.size);have hbF := hide (((hb.out.trans (hb4.mono hzr)).trans (hbA.mono (by omega))));replace hb4 := hide hb4;clear q hO4 hbA b0;go_wp2_with (first | (at_builtin; (with_reducible refine wpList_app rfl (.tmp 21) (.tmp 26) rfl hER.out flat_sv rfl hOa.out rfl (Sl.lit1' w4 32 ((A4, n4, c4) : Hd) _ rfl 1 _ ?c0) ?c1 hza ?_); rotate_right; intro A6 c6 w6 hown6 hgr6 hb6 hat6))
   case c0 => rfl
   case c1 => omega
   have hG6 := hide (hGA.out.push hsA.out hown.out hown6 hgr6 hat6);have hR6 := hide (hRs.out.push (x := (A4, n4, c4)) rfl (by show n4 ≤ 1000; omega));have hb6' := hide (hbF.out.trans hb6);go_wp2_with fail;go_roundw
   case rel => exact ⟨k + 1, c6, A6, _, by omega, by go_num, rfl, hG6.out, hR6.out, hb6'.out⟩
   case measure => simp [intOf]; omega
  ·have k1 : ¬ (k : Int) < (N : Int) := by omega
   obtain rfl : k = N := by omega
   obtain ⟨N, rfl⟩ : ∃ N, N = k := ⟨_, rfl⟩;obtain ⟨wK, rfl⟩ : ∃ wK : World, wK = wr := ⟨_, rfl⟩;have hPK := hide (hAll.out wK hb.out).2.2;have hGK := hG;have hRK := hRs;have hbK := hb;have hzK := hbK.out.size;obtain ⟨RK, rfl⟩ : ∃ RK, RK = R := ⟨_, rfl⟩;obtain ⟨AK, rfl⟩ : ∃ AK, AK = A5 := ⟨_, rfl⟩;obtain ⟨cK, rfl⟩ : ∃ cK, cK = c5 := ⟨_, rfl⟩;obtain ⟨w8, hw8⟩ : ∃ w8, w8 = wK.alloc (.cells #[] 2) := ⟨_, rfl⟩;have hO8 : Hid (Own 1 iv w8 wK.heap.size 2 (some ⟨wK.heap.size, 0, none⟩) 0 0 []) := by show Own _ _ _ _ _ _ _ _ _; rw [hw8]; exact Own.made wK _ zR
   have hb8 : Hid (Below wK.heap.size wK w8) := by show Below _ _ _; rw [hw8]; exact bR.alloc zR _
   have hrp := hide (refF_part es N p);have hkey : Hid (∀ i j, i < N → j < N → (sameB (refF es N p) i j ↔ p[i]? = p[j]? ∧ (fun k : Nat => sgF N p es (k : Int)) i = (fun k : Nat => sgF N p es (k : Int)) j)) := fun i j hi hj => ref_key (es := es) hpl hi hj
   obtain ⟨r, hr⟩ : ∃ r, r = refF es N p := ⟨_, rfl⟩;rw [← hr] at hrp hkey;replace hr := hide hr;clear hb hG hRs;go_upto_region 8 with fail;rw [← show w8 = _ from hw8];replace hw8 := hide hw8;clear b0;go_wp2_with fail
   go_loopw [7, 8, 9] (fun v7 v8 v9 wr => ∃ (k c7 : Nat) (A7 : Option Addr), k ≤ N ∧ v9 = .int .i64 (k : Nat) ∧ v8 = .int .i64 (cntB r k : Nat) ∧ v7 = .slice A7 k c7 ∧ Hid (Own 1 iv wr wK.heap.size 2 A7 k c7 (r.take k)) ∧ Hid (Below wK.heap.size wK wr)) (fun _ _ v _ => N - (intOf v).toNat)
   case atStart => exact ⟨0, 0, _, Nat.zero_le _, rfl, rfl, rfl, hO8.out, hb8.out⟩
   case round =>
    clear hO8 hb8;obtain ⟨k, c7, A7, hk, rfl, rfl, rfl, hO7, hb⟩ := hrel;have hpl2 := hide hpl
    by_cases hlt : k < N
    ·have k0 : (0 : Int) ≤ (k : Int) := by omega
     have k1 : (k : Int) < (N : Int) := by omega
     obtain ⟨x, hx⟩ : ∃ x, r[k]? = some x := ⟨_, List.getElem?_eq_getElem (by rw [hrp.out.len]; exact hlt)⟩;have hnew := hide (new_or hrp.out.norm hx);have hcb : cntB r k ≤ k := cntB_le r k;replace hx := hide hx;obtain ⟨wO, rfl⟩ : ∃ wO : World, wO = wr := ⟨_, rfl⟩;have hbO := hb;have hOO := hO7;clear hb hO7;go_wp2_with fail
     go_loopw [10, 11] (fun v10 v11 wr => ∃ j : Nat, j ≤ k ∧ v11 = .int .i64 (j : Nat) ∧ Hid (Below wO.heap.size wO wr) ∧ Hid (FndR r x k j v10)) (fun _ v _ => k - (intOf v).toNat)
     case atStart => exact ⟨0, Nat.zero_le _, rfl, bR, .inl ⟨rfl, fun i hi => absurd hi (Nat.not_lt_zero i)⟩⟩
     case round =>
      obtain ⟨j, hj, rfl, hb2, hF⟩ := hrel;have j0 : (0 : Int) ≤ (j : Int) := by omega
      have hbW := hide (hbO.out.trans (hb2.out.mono hbO.out.size));have hO9 := hide (hOO.out.below hb2.out zR)
      rcases hF.out with ⟨rfl, hF2⟩ | ⟨rfl, hx0, hF2⟩
      ·replace hF2 := hide hF2
       by_cases hjk : j < k
       ·have j1 : (j : Int) < (k : Int) := by omega
        have j2 : (j : Int) < (N : Int) := by omega
        have hP2 := hPK.out.below hbW.out (.inr zR);have hG2 := hGK.out.below hbW.out;obtain ⟨gP, oP, pj, e1, -, -, hgP, hpj, cpj, -⟩ := SlI.get hP2 (show j < N by omega);obtain ⟨gP2, oP2, pk, e2, -, -, -, hpk, cpk, -⟩ := SlI.get hP2 hlt;subst e1;cases e2;obtain ⟨gR, oR, Aj, nj, cj, sj, e3, -, hgR, hRj, crj, hsj, -⟩ := hG2.get (show j < N by omega);obtain ⟨gR2, oR2, Ak, nk, ck, sk, e4, -, -, hRk, crk, hsk, -⟩ := hG2.get hlt;subst e3;cases e4;have hzW := hbW.out.size;have hnj := hRK.out.2 _ (List.mem_of_getElem? hRj);have hnk := hRK.out.2 _ (List.mem_of_getElem? hRk);have vsj := hRK.out.get (show j < N by omega) hRj;have vsk := hRK.out.get hlt hRk
        (try dsimp only at hnj hnk vsj vsk)
        obtain ⟨wD, hwD⟩ : ∃ wD, wD = wr.drew := ⟨_, rfl⟩;have hbD : Below wr.heap.size wr wD := by rw [hwD]; exact bR.drew
        have hq := hide (l00Same_calls Aj Ak nj nk cj ck sj sk wD _ _ _ _ (hsj.below hbD (.inr zR)) (hsk.below hbD (.inr zR)) (by omega) (by omega));have hSS : Hid (∀ wx, Below wD.heap.size wD wx → wx.cell? ⟨gP, oP + j, none⟩ = some (.int .i64 pj) ∧ wx.cell? ⟨gP, oP + k, none⟩ = some (.int .i64 pk) ∧ wx.cell? ⟨gR, oR + j, none⟩ = some (.slice Aj nj cj) ∧ wx.cell? ⟨gR, oR + k, none⟩ = some (.slice Ak nk ck)) := fun wx hx2 => by
         have hbx := hbD.trans (hx2.mono hbD.size);exact ⟨(hbx.cell (p := ⟨gP, oP + j, none⟩) hgP).trans cpj, (hbx.cell (p := ⟨gP, oP + k, none⟩) hgP).trans cpk, (hbx.cell (p := ⟨gR, oR + j, none⟩) hgR).trans crj, (hbx.cell (p := ⟨gR, oR + k, none⟩) hgR).trans crk⟩
        have hsame : Hid (sameB r j k ↔ pj = pk ∧ sj = sk) := by
         have := hkey.out j k (by omega) hlt;rw [hpj, hpk, ← vsj, ← vsk] at this
         show _ ↔ _
         rw [this];exact and_congr_left fun _ => ⟨fun h => Option.some.inj h, fun h => h ▸ rfl⟩
        have hjx : Hid (r[j]? = some x ↔ sameB r j k) := by
         show _ ↔ _
         unfold sameB;rw [hx.out]
        replace hbD := hide hbD;replace hwD := hide hwD;replace hpj := hide hpj;replace hpk := hide hpk;replace hRj := hide hRj;replace hRk := hide hRk;replace vsj := hide vsj;replace vsk := hide vsk;clear hP2 hG2 hsj hsk cpj cpk crj crk
        by_cases hpp : pj = pk
        ·subst hpp
         have g1 : (pj == pj) = true := by simp
         by_cases hss : sj = sk
         ·have hyes : Hid (r[j]? = some x) := hjx.out.2 (hsame.out.2 ⟨rfl, hss⟩)
          rw [decide_eq_true hss] at hq;go_upto_region 15 with fail;refine lateT_begin (S := fun w' => w'.cell? ⟨gP, oP + j, none⟩ = some (.int .i64 pj) ∧ w'.cell? ⟨gP, oP + k, none⟩ = some (.int .i64 pj) ∧ w'.cell? ⟨gR, oR + j, none⟩ = some (.slice Aj nj cj) ∧ w'.cell? ⟨gR, oR + k, none⟩ = some (.slice Ak nk ck)) (st := 19) (by kernel_rfl) ?_;rw [← show wD = _ from hwD.out];have hS0 : (fun w' : World => w'.cell? ⟨gP, oP + j, none⟩ = some (.int .i64 pj) ∧ w'.cell? ⟨gP, oP + k, none⟩ = some (.int .i64 pj) ∧ w'.cell? ⟨gR, oR + j, none⟩ = some (.slice Aj nj cj) ∧ w'.cell? ⟨gR, oR + k, none⟩ = some (.slice Ak nk ck)) wD := hSS.out wD bR;refine tkD 0 [2,3,8,9,19] hS0 ?_;refine tkD 1 [2,3,8,9,19] hS0 ?_;refine tkD 2 [3,8,9,19] hS0 ?_;refine tkD 3 [8,9,19] hS0 ?_;refine tkD 4 [6,7,8,9,19] hS0 ?_;refine tkD 5 [6,7,8,9,19] hS0 ?_;refine tkD 6 [7,8,9,19] hS0 ?_;refine tkD 7 [8,9,19] hS0 ?_;refine tkD 8 [9,19] hS0 ?_;refine tkD 9 [19] hS0 ?_;refine tkD 10 [12,13,18,19] hS0 ?_;refine tkD 11 [12,13,18,19] hS0 ?_;refine tkD 12 [13,18,19] hS0 ?_;refine tkD 13 [18,19] hS0 ?_;refine tkD 14 [16,17,18,19] hS0 ?_;refine tkD 15 [16,17,18,19] hS0 ?_;refine tkD 16 [17,18,19] hS0 ?_;refine tkD 17 [18,19] hS0 ?_;refine lS 18 fun K hK => ?_
          (try go_simp)
          go_at_call 165
          (with_reducible refine hq.out.mono ?_)
          rintro e w7 ⟨rfl, hb7⟩
          (try go_wp2_with fail)
          have hS1 := hSS.out w7 hb7;refine kP hK (fun _ => hS1) ?_;clear hK K;refine lS 19 fun K hK => ?_
          go_simp;refine kP hK nH ?_
          clear hK K;refine lateT_done (by kernel_rfl) ?_ _;have hb9 := hide (hb2.out.trans ((hbD.out.trans (hb7.mono hbD.out.size)).mono hb2.out.size));obtain ⟨gO, oO, hOv⟩ : ∃ gO oO, A7 = some ⟨gO, oO, none⟩ ∧ gO < wO.heap.size ∧ wO.cell? ⟨gO, oO + j, none⟩ = some (.int .i64 x) := by
           obtain ⟨b5, o5, v5, e5, -, -, g5, hv5, c5, -⟩ := SlI.get (hOO.out.sl flat_iv) hjk;rw [List.getElem?_take_of_lt hjk, hyes.out] at hv5
           cases hv5
           exact ⟨b5, o5, e5, g5, c5⟩
          obtain ⟨rfl, hgO, cO⟩ := hOv;have cO7 := (hb9.out.cell (p := ⟨gO, oO + j, none⟩) hgO).trans cO;have hx0 : Hid (0 ≤ x) := (part_lt hrp.out (List.mem_of_getElem? hx.out)).1;clear cO;go_wp2_with fail;go_roundw
          case rel => exact ⟨j + 1, by omega, by go_num, hb9.out, .inr ⟨rfl, hx0.out, j, hjk, hyes.out⟩⟩
          case measure => simp [intOf]; omega
         ·have hno : Hid (¬ r[j]? = some x) := fun h => hss (hsame.out.1 (hjx.out.1 h)).2
          rw [decide_eq_false hss] at hq;go_upto_region 15 with fail;refine lateT_begin (S := fun w' => w'.cell? ⟨gP, oP + j, none⟩ = some (.int .i64 pj) ∧ w'.cell? ⟨gP, oP + k, none⟩ = some (.int .i64 pj) ∧ w'.cell? ⟨gR, oR + j, none⟩ = some (.slice Aj nj cj) ∧ w'.cell? ⟨gR, oR + k, none⟩ = some (.slice Ak nk ck)) (st := 19) (by kernel_rfl) ?_;rw [← show wD = _ from hwD.out];have hS0 : (fun w' : World => w'.cell? ⟨gP, oP + j, none⟩ = some (.int .i64 pj) ∧ w'.cell? ⟨gP, oP + k, none⟩ = some (.int .i64 pj) ∧ w'.cell? ⟨gR, oR + j, none⟩ = some (.slice Aj nj cj) ∧ w'.cell? ⟨gR, oR + k, none⟩ = some (.slice Ak nk ck)) wD := hSS.out wD bR;refine tkD 0 [2,3,8,9,19] hS0 ?_;refine tkD 1 [2,3,8,9,19] hS0 ?_;refine tkD 2 [3,8,9,19] hS0 ?_;refine tkD 3 [8,9,19] hS0 ?_;refine tkD 4 [6,7,8,9,19] hS0 ?_;refine tkD 5 [6,7,8,9,19] hS0 ?_;refine tkD 6 [7,8,9,19] hS0 ?_;refine tkD 7 [8,9,19] hS0 ?_;refine tkD 8 [9,19] hS0 ?_;refine tkD 9 [19] hS0 ?_;refine tkD 10 [12,13,18,19] hS0 ?_;refine tkD 11 [12,13,18,19] hS0 ?_;refine tkD 12 [13,18,19] hS0 ?_;refine tkD 13 [18,19] hS0 ?_;refine tkD 14 [16,17,18,19] hS0 ?_;refine tkD 15 [16,17,18,19] hS0 ?_;refine tkD 16 [17,18,19] hS0 ?_;refine tkD 17 [18,19] hS0 ?_;refine lS 18 fun K hK => ?_
          (try go_simp)
          go_at_call 165
          (with_reducible refine hq.out.mono ?_)
          rintro e w7 ⟨rfl, hb7⟩
          (try go_wp2_with fail)
          have hS1 := hSS.out w7 hb7;refine kP hK (fun _ => hS1) ?_;clear hK K;refine lS 19 fun K hK => ?_
          go_simp;refine kP hK nH ?_
          clear hK K;refine lateT_done (by kernel_rfl) ?_ _;have hb9 := hide (hb2.out.trans ((hbD.out.trans (hb7.mono hbD.out.size)).mono hb2.out.size));go_wp2_with fail;go_roundw
          case rel => exact ⟨j + 1, by omega, by go_num, hb9.out, .inl ⟨rfl, fun i hi => by
           by_cases e : i < j
           ·exact hF2.out i e
           ·obtain rfl : i = j := by omega
            exact hno.out⟩⟩
          case measure => simp [intOf]; omega
        ·have g1 : (pj == pk) = false := beq_eq_false_iff_ne.2 hpp
         have hno : Hid (¬ r[j]? = some x) := fun h => hpp (hsame.out.1 (hjx.out.1 h)).1
         go_upto_region 15 with fail;refine lateT_begin (S := fun w' => w'.cell? ⟨gP, oP + j, none⟩ = some (.int .i64 pj) ∧ w'.cell? ⟨gP, oP + k, none⟩ = some (.int .i64 pk) ∧ w'.cell? ⟨gR, oR + j, none⟩ = some (.slice Aj nj cj) ∧ w'.cell? ⟨gR, oR + k, none⟩ = some (.slice Ak nk ck)) (st := 19) (by kernel_rfl) ?_;rw [← show wD = _ from hwD.out];have hS0 : (fun w' : World => w'.cell? ⟨gP, oP + j, none⟩ = some (.int .i64 pj) ∧ w'.cell? ⟨gP, oP + k, none⟩ = some (.int .i64 pk) ∧ w'.cell? ⟨gR, oR + j, none⟩ = some (.slice Aj nj cj) ∧ w'.cell? ⟨gR, oR + k, none⟩ = some (.slice Ak nk ck)) wD := hSS.out wD bR;refine tkD 0 [2,3,8,9,19] hS0 ?_;refine tkD 1 [2,3,8,9,19] hS0 ?_;refine tkD 2 [3,8,9,19] hS0 ?_;refine tkD 3 [8,9,19] hS0 ?_;refine tkD 4 [6,7,8,9,19] hS0 ?_;refine tkD 5 [6,7,8,9,19] hS0 ?_;refine tkD 6 [7,8,9,19] hS0 ?_;refine tkD 7 [8,9,19] hS0 ?_;refine tkD 8 [9,19] hS0 ?_;refine tkD 9 [19] hS0 ?_;refine tkC 10 [12,13,18,19] hS0 ?_;refine tkC 11 [12,13,18,19] hS0 ?_;refine tkC 12 [13,18,19] hS0 ?_;refine tkC 13 [18,19] hS0 ?_;refine tkC 14 [16,17,18,19] hS0 ?_;refine tkC 15 [16,17,18,19] hS0 ?_;refine tkC 16 [17,18,19] hS0 ?_;refine tkC 17 [18,19] hS0 ?_;refine tkC 18 [19] hS0 ?_;refine lS 19 fun K hK => ?_
         go_simp;refine kP hK nH ?_
         clear hK K;refine lateT_done (by kernel_rfl) ?_ _;have hb9 := hide (hb2.out.trans (hbD.out.mono hb2.out.size));go_wp2_with fail;go_roundw
         case rel => exact ⟨j + 1, by omega, by go_num, hb9.out, .inl ⟨rfl, fun i hi => by
          by_cases e : i < j
          ·exact hF2.out i e
          ·obtain rfl : i = j := by omega
           exact hno.out⟩⟩
         case measure => simp [intOf]; omega
       ·obtain rfl : j = k := by omega
        have hxe : x = (cntB r j : Nat) ∧ cntB r (j + 1) = cntB r j + 1 := by
         rcases hnew.out with ⟨_, _, i, hi, h⟩ | ⟨h1, h2, _⟩
         ·exact absurd h (hF2.out i hi)
         ·exact ⟨h1, h2⟩
        have hzr := hbW.out.size;have hza : wK.heap.size ≤ (wr.alloc (.cells #[.int .i64 (cntB r j : Nat)] 2)).heap.size := by rw [World.size_alloc]; omega
        have hOa := hide (hO9.out.alloc (.cells #[.int .i64 (cntB r j : Nat)] 2));have hta : Hid (r.take (j + 1) = r.take j ++ [(cntB r j : Int)]) := by
         show _ = _
         rw [List.take_add_one, hx.out, hxe.1]; rfl
        have hcs : cntB r (j + 1) = cntB r j + 1 := hxe.2;replace hxe := hide hxe;have i1 : ¬ (j : Int) < (j : Int) := by omega
        have i2 : IntKind.i64.wrap ((cntB r j : Int) + 1) = ((cntB r j + 1 : Nat) : Int) := by rw [IntWalk.i64_in _ (by omega)]; omega
        go_wp2_with (first | (at_builtin; (with_reducible refine wpList_app rfl (.tmp 73) (.tmp 75) rfl hE.out flat_iv rfl hOa.out rfl (Sl.lit1' wr 2 (cntB r j : Int) _ rfl 1 _ ?c0) ?c1 hza ?_); rotate_right; intro A6 c6 w6 hown6 hgr6 hb6 hat6))
        case c0 => rfl
        case c1 => omega
        rw [← hta.out] at hown6;have hb10 := hide ((hbW.out.alloc hzr (.cells #[.int .i64 (cntB r j : Nat)] 2)).trans (hb6.mono (by omega)));go_wp2_with fail;go_roundw
        case rel => exact ⟨j + 1, c6, A6, by omega, by go_num, by rw [hcs]; (try go_num), rfl, hown6, hb10.out⟩
        case measure => simp [intOf]; omega
      ·have hcs : cntB r (k + 1) = cntB r k := by
        rcases hnew.out with ⟨_, h2, _⟩ | ⟨_, _, h3⟩
        ·exact h2
        ·obtain ⟨i, hi, h⟩ := hF2
         exact absurd h (h3 i hi)
       replace hF2 := hide hF2;have hzr := hbW.out.size;have hza : wK.heap.size ≤ (wr.alloc (.cells #[.int .i64 x] 2)).heap.size := by rw [World.size_alloc]; omega
       have hOa := hide (hO9.out.alloc (.cells #[.int .i64 x] 2));have hta : Hid (r.take (k + 1) = r.take k ++ [x]) := by
        show _ = _
        rw [List.take_add_one, hx.out]; rfl
       have i1 : ¬ x < 0 := by omega
       by_cases hjk : j < k
       all_goals
        go_wp2_with (first | (at_builtin; (with_reducible refine wpList_app rfl (.tmp 73) (.tmp 75) rfl hE.out flat_iv rfl hOa.out rfl (Sl.lit1' wr 2 x _ rfl 1 _ ?c0) ?c1 hza ?_); rotate_right; intro A6 c6 w6 hown6 hgr6 hb6 hat6))
        case c0 => rfl
        case c1 => omega
        rw [← hta.out] at hown6;have hb10 := hide ((hbW.out.alloc hzr (.cells #[.int .i64 x] 2)).trans (hb6.mono (by omega)));go_wp2_with fail;go_roundw
        case rel => exact ⟨k + 1, c6, A6, by omega, by go_num, by rw [hcs], rfl, hown6, hb10.out⟩
        case measure => simp [intOf]; omega
    ·obtain rfl : k = N := by omega
     have hF := hide (hO7.out.sl flat_iv);have hlast : Hid (r.take k = r) := List.take_of_length_le (by rw [hrp.out.len]; exact zR);rw [hlast.out, hr.out] at hF;have hbF := hide (hbK.out.trans (hb.out.mono hzK));have i1 : ¬ (k : Int) < (k : Int) := by omega
     clear hO7;go_wp2_with fail;go_ret;exact ⟨A7, ⟨c7, rfl⟩, hF.out.more hzK zR, hbF.out⟩
end Go.Proofs.YtnhomkmfbngmgaaGreatDoor
namespace Go.Proofs.YtnhomkmfbngmgaaGreatDoor
open Go.ChangeShapes Go.WideShapes Go.ChangeAt Go.RowKit Go.Sort
def SetsTo (es : List Ed) (ls : List ByteArray) (k : Nat) (R : List (Hd × List Int)) : Prop := R.length = k ∧ ∀ (i : Nat) (r : Hd × List Int), R[i]? = some r → (∀ v, v ∈ r.2 ↔ TauC es ls (· = (i : Int)) v) ∧ r.1.2.1 ≤ 41
theorem SetsTo.push {es : List Ed} {ls : List ByteArray} {k : Nat} {R : List (Hd × List Int)} (h : SetsTo es ls k R) {x : Hd} {s : List Int} (hs : ∀ v, v ∈ s ↔ TauC es ls (· = (k : Int)) v) (hx : x.2.1 ≤ 41) : SetsTo es ls (k + 1) (R ++ [(x, s)]) := by
 refine ⟨by rw [List.length_append, h.1]; rfl, fun i r hr => ?_⟩
 by_cases e : i < R.length
 ·rw [List.getElem?_append_left e] at hr
  exact h.2 i r hr
 ·rw [List.getElem?_append_right (by omega)] at hr
  have e2 : i - R.length = 0 := by
   have := (List.getElem?_eq_some_iff.1 hr).1
   simp at this
   omega
  rw [e2] at hr
  cases hr
  obtain rfl : i = k := by have := h.1; omega
  exact ⟨hs, hx⟩
theorem GrowH.base {w : World} {b1 b2 n c : Nat} {A : Option Addr} {R : List (Hd × List Int)} (h : GrowH w b1 A n c R) (hb : b2 ≤ b1) : GrowH w b2 A n c R :=
 ⟨h.own.sink hb, fun r hr => (h.rows r hr).more hb zR, h.off⟩
theorem labs_zero {ls : List ByteArray} (h : namesB ls = true) : ls[0]? = some tauB := by
 unfold namesB at h;rw [Bool.and_eq_true] at h;have h1 := inB_true.1 h.1;have hx : ls[0]? = some (ls[0]'(by omega)) := List.getElem?_eq_getElem _;have h0 := allK_get h.2 (show 0 < ls.length by omega);rw [okL_zero hx] at h0;rw [hx, of_decide_eq_true h0]
open Go.Lib
def stI (ls : List ByteArray) (es : List Ed) (x : Int) (s : ByteArray) (y : Int) : Prop := ∃ l : Int, (x, l, y) ∈ es ∧ 0 ≤ l ∧ ls[l.toNat]? = some s
theorem at_one {α : Type} {L : List α} (h : L.Nodup) {i j : Nat} {x : α} (hi : L[i]? = some x) (hj : L[j]? = some x) : i = j := by
 obtain ⟨li, rfl⟩ := List.getElem?_eq_some_iff.1 hi;obtain ⟨lj, e⟩ := List.getElem?_eq_some_iff.1 hj
 rcases Nat.lt_trichotomy i j with h1 | h1 | h1
 ·exact absurd e.symm (List.pairwise_iff_getElem.1 h i j li lj h1)
 ·exact h1
 ·exact absurd e (List.pairwise_iff_getElem.1 h j i lj li h1)
theorem sub_lenG {α : Type} [DecidableEq α] : ∀ {L M : List α}, L.Nodup → (∀ y, y ∈ L → y ∈ M) → L.length ≤ M.length
 | [], M, _, _ => Nat.zero_le _
 | x :: L, M, hn, h => by
  have hx := h x (List.mem_cons_self ..);have h1 := sub_lenG (L := L) (M := M.erase x) (List.nodup_cons.1 hn).2 (fun y hy => (List.mem_erase_of_ne (by rintro rfl; exact (List.nodup_cons.1 hn).1 hy)).2 (h y (List.mem_cons_of_mem _ hy)));have h2 := List.length_erase_of_mem hx;have h3 := List.length_pos_of_mem hx;simp only [List.length_cons];omega
theorem stI_tE {ls : List ByteArray} {es : List Ed} {x y : Nat} {s : ByteArray} : stI ls es (x : Int) s (y : Int) ↔ tE ls es x s y := by
 constructor
 ·rintro ⟨l, h1, h2, h3⟩
  exact ⟨l.toNat, by unfold nE; rw [Int.toNat_of_nonneg h2]; exact h1, h3⟩
 ·rintro ⟨l, h1, h2⟩
  exact ⟨(l : Int), h1, by omega, by rw [Int.toNat_natCast]; exact h2⟩
theorem stI_bis {ls : List ByteArray} {es : List Ed} (he : ∀ e, e ∈ es → 0 ≤ e.1 ∧ 0 ≤ e.2.2) (x : Nat) : BisG (tE ls es) (stI ls es) x (x : Int) := by
 refine ⟨fun a b => b = (a : Int), ⟨fun a b s a' e h => ⟨(a' : Int), e ▸ stI_tE.2 h, rfl⟩, fun a b s b' e h => ?_⟩, rfl⟩;subst e;have h0 : 0 ≤ b' := by
  obtain ⟨l, h1, -⟩ := h;exact (he _ h1).2
 obtain ⟨c, rfl⟩ : ∃ c : Nat, b' = (c : Int) := ⟨b'.toNat, by omega⟩;exact ⟨c, stI_tE.1 h, rfl⟩
theorem ltsEs_st {ts : List ByteArray} {arcs : List Arc} (hin : ∀ a, a ∈ arcs → a.2.1 ∈ joiF ts) {x y : Int} {s : ByteArray} : stI (joiF ts) (ltsEs ts arcs) x s y ↔ (x, s, y) ∈ arcs := by
 constructor
 ·rintro ⟨l, h1, h2, h3⟩
  obtain ⟨a, ha, e⟩ := ltsEs_mem.1 h1;obtain ⟨k, h4, h5⟩ := idxZ_get (hin a ha);unfold arcD at e;injection e with e1 e2;injection e2 with e2 e3;rw [h4] at e2;rw [e2, Int.toNat_natCast, h5] at h3;injection h3 with h3;rw [e1, e3, ← h3];exact ha
 ·intro h
  obtain ⟨k, h4, h5⟩ := idxZ_get (hin _ h);exact ⟨(k : Int), ltsEs_mem.2 ⟨_, h, by unfold arcD; rw [h4]⟩, by omega, by rw [Int.toNat_natCast]; exact h5⟩
theorem ltsEs_rise (ts : List ByteArray) (arcs : List Arc) : RisE (ltsEs ts arcs) := compactE_rise (sortE_le _)
theorem ltsEs_ends {ts : List ByteArray} {arcs : List Arc} {st : Int} (hin : ∀ a, a ∈ arcs → a.2.1 ∈ joiF ts) (hst : ∀ a, a ∈ arcs → (0 ≤ a.1 ∧ a.1 < st) ∧ 0 ≤ a.2.2 ∧ a.2.2 < st) (e : Ed) (he : e ∈ ltsEs ts arcs) : (0 ≤ e.1 ∧ e.1 < st) ∧ (0 ≤ e.2.1 ∧ e.2.1 < ((joiF ts).length : Int)) ∧ 0 ≤ e.2.2 ∧ e.2.2 < st := by
 obtain ⟨a, ha, rfl⟩ := ltsEs_mem.1 he;obtain ⟨k, h4, h5⟩ := idxZ_get (hin a ha);have h6 := (List.getElem?_eq_some_iff.1 h5).1;have h7 := hst a ha;unfold arcD;dsimp only;rw [h4];omega
theorem ltsEs_valid {ts : List ByteArray} {arcs : List Arc} {st ini : Int} (h1 : 1 ≤ st ∧ st ≤ 40) (h2 : 0 ≤ ini ∧ ini < st) (hn : namesB (joiF ts) = true) (hlen : (ltsEs ts arcs).length ≤ 300) (hin : ∀ a, a ∈ arcs → a.2.1 ∈ joiF ts) (hst : ∀ a, a ∈ arcs → (0 ≤ a.1 ∧ a.1 < st) ∧ 0 ≤ a.2.2 ∧ a.2.2 < st) : ltsV (st, ini, joiF ts, ltsEs ts arcs) = true :=
 ltsV_of h1 h2 hn hlen (ltsEs_rise _ _) (ltsEs_ends hin hst)
theorem ltsEs_sub {ts ts' : List ByteArray} {arcs arcs' : List Arc} {g : Int → Int} {h : ByteArray → ByteArray} (hin : ∀ a, a ∈ arcs → a.2.1 ∈ joiF ts) (hs : ∀ a', a' ∈ arcs' → ∃ a, a ∈ arcs ∧ a' = (g a.1, h a.2.1, g a.2.2)) : (ltsEs ts' arcs').length ≤ (ltsEs ts arcs).length := by
 have h1 := sub_lenG (L := ltsEs ts' arcs') (M := (ltsEs ts arcs).map fun e => (g e.1, idxZ (joiF ts') (h ((joiF ts)[e.2.1.toNat]?.getD ByteArray.empty)), g e.2.2)) (rise_nodup (ltsEs_rise _ _)) fun e he => by
  obtain ⟨a', ha', rfl⟩ := ltsEs_mem.1 he;obtain ⟨a, ha, rfl⟩ := hs a' ha';obtain ⟨k, h4, h5⟩ := idxZ_get (hin a ha);refine List.mem_map.2 ⟨arcD (joiF ts) a, ltsEs_mem.2 ⟨a, ha, rfl⟩, ?_⟩;unfold arcD;dsimp only;rw [h4, Int.toNat_natCast, h5]
  rfl
 rwa [List.length_map] at h1
theorem joiF_sub {ts ts' : List ByteArray} (h : ∀ s, s ∈ ts' → s = tauB ∨ s ∈ ts) : (joiF ts').length ≤ (joiF ts).length :=
 sub_lenG (joi_nodup _) fun s hs => (joi_mem_iff _ _).2 (by
  rcases (joi_mem_iff _ _).1 hs with rfl | hs
  ·exact .inl rfl
  ·exact h s hs)
structure ProdL {S T : Type} (A : S → ByteArray → S → Prop) (B : T → ByteArray → T → Prop) (sh : ByteArray → Bool) (a : S) (b : T) (W : List (S × T)) (arcs : List Arc) (i : Nat) : Prop where
 nd : W.Nodup
 ini : W[i]? = some (a, b)
 clo : ∀ p s q, p ∈ W → prodT A B sh p s q → q ∈ W
 is : ∀ f s t, (f, s, t) ∈ arcs ↔ ∃ (k m : Nat) (p q : S × T), f = (k : Int) ∧ t = (m : Int) ∧ W[k]? = some p ∧ W[m]? = some q ∧ prodT A B sh p s q
 min : ∀ P : S × T → Prop, P (a, b) → (∀ p s q, P p → prodT A B sh p s q → P q) → ∀ p, p ∈ W → P p
section
variable {S T S' T' : Type} {A : S → ByteArray → S → Prop} {B : T → ByteArray → T → Prop} {A' : S' → ByteArray → S' → Prop} {B' : T' → ByteArray → T' → Prop} {sh sh' : ByteArray → Bool} {a : S} {b : T} {a' : S'} {b' : T'} {W : List (S × T)} {W' : List (S' × T')} {arcs arcs' : List Arc} {i i' : Nat}
theorem ProdL.ends (h : ProdL A B sh a b W arcs i) (x : Arc) (hx : x ∈ arcs) : (0 ≤ x.1 ∧ x.1 < (W.length : Int)) ∧ 0 ≤ x.2.2 ∧ x.2.2 < (W.length : Int) := by
 obtain ⟨f, s, t⟩ := x;obtain ⟨k, m, p, q, rfl, rfl, h1, h2, -⟩ := (h.is f s t).1 hx;have h3 := (List.getElem?_eq_some_iff.1 h1).1;have h4 := (List.getElem?_eq_some_iff.1 h2).1;dsimp only;omega
theorem ProdL.few (h : ProdL A B sh a b W arcs i) : 1 ≤ W.length ∧ i < W.length := by
 have := (List.getElem?_eq_some_iff.1 h.ini).1;omega
theorem ProdL.bis (h : ProdL A B sh a b W arcs i) {ts : List ByteArray} (hin : ∀ a, a ∈ arcs → a.2.1 ∈ joiF ts) : BisG (tE (joiF ts) (ltsEs ts arcs)) (prodT A B sh) i (a, b) := by
 refine ProdS.bis ⟨h.nd, h.ini, h.clo, fun k s m => ?_⟩;rw [← stI_tE, ltsEs_st hin, h.is]
 constructor
 ·rintro ⟨k', m', p, q, e1, e2, h1, h2, h3⟩
  obtain rfl : k = k' := by omega
  obtain rfl : m = m' := by omega
  exact ⟨p, q, h1, h2, h3⟩
 ·rintro ⟨p, q, h1, h2, h3⟩
  exact ⟨k, m, p, q, rfl, rfl, h1, h2, h3⟩
theorem ProdL.sub (h : ProdL A B sh a b W arcs i) (h' : ProdL A' B' sh' a' b' W' arcs' i') {φ : S × T → S' × T'} {hd : ByteArray → ByteArray} (h0 : φ (a, b) = (a', b'))
  (hs : ∀ p s' q', prodT A' B' sh' (φ p) s' q' → ∃ s q, prodT A B sh p s q ∧ s' = hd s ∧ q' = φ q) : W'.length ≤ W.length ∧ ∃ g : Int → Int, ∀ x', x' ∈ arcs' → ∃ x, x ∈ arcs ∧ x' = (g x.1, hd x.2.1, g x.2.2) := by
 classical
 have hsub : ∀ p', p' ∈ W' → ∃ p, p ∈ W ∧ φ p = p' := h'.min _ ⟨(a, b), List.mem_of_getElem? h.ini, h0⟩ fun p' s q' hp hq => by
  obtain ⟨p, hp1, rfl⟩ := hp;obtain ⟨s0, q, h1, -, rfl⟩ := hs p s q' hq;exact ⟨q, h.clo p s0 q hp1 h1, rfl⟩
 refine ⟨?_, ?_⟩
 ·have h1 := sub_lenG (L := W') (M := W.map φ) h'.nd fun p' hp' => by
   obtain ⟨p, hp, e⟩ := hsub p' hp';exact List.mem_map.2 ⟨p, hp, e⟩
  rwa [List.length_map] at h1
 ·refine ⟨fun k => if hk : ∃ (m : Nat) (p : S × T), W[k.toNat]? = some p ∧ W'[m]? = some (φ p) then (hk.choose : Int) else 0, fun x' hx' => ?_⟩
  obtain ⟨f, s', t⟩ := x';obtain ⟨k', m', p', q', rfl, rfl, h1, h2, h3⟩ := (h'.is f s' t).1 hx';obtain ⟨p, hp, rfl⟩ := hsub p' (List.mem_of_getElem? h1);obtain ⟨s, q, h4, rfl, rfl⟩ := hs p s' q' h3;obtain ⟨k, hk⟩ := List.getElem?_of_mem hp;obtain ⟨m, hm⟩ := List.getElem?_of_mem (h.clo p s q hp h4);refine ⟨((k : Int), s, (m : Int)), (h.is _ _ _).2 ⟨k, m, p, q, rfl, rfl, hk, hm, h4⟩, ?_⟩;have e1 : ∃ (j : Nat) (r : S × T), W[((k : Nat) : Int).toNat]? = some r ∧ W'[j]? = some (φ r) := ⟨k', p, by rw [Int.toNat_natCast]; exact hk, h1⟩;have e2 : ∃ (j : Nat) (r : S × T), W[((m : Nat) : Int).toNat]? = some r ∧ W'[j]? = some (φ r) := ⟨m', q, by rw [Int.toNat_natCast]; exact hm, h2⟩;dsimp only;rw [dif_pos e1, dif_pos e2];obtain ⟨r1, g1, g2⟩ := e1.choose_spec;obtain ⟨r2, g3, g4⟩ := e2.choose_spec;rw [Int.toNat_natCast] at g1 g3;rw [hk] at g1;rw [hm] at g3;obtain rfl := Option.some.inj g1;obtain rfl := Option.some.inj g3;rw [at_one h'.nd g2 h1, at_one h'.nd g4 h2]
end
def turnA (hd : ByteArray → ByteArray) (ls : List ByteArray) (es : List Ed) : List Arc := (es.map (arcOf ls)).map fun a => (a.1, hd a.2.1, a.2.2)
section
variable {hd : ByteArray → ByteArray} {ls : List ByteArray} {es : List Ed}
theorem turnA_mem (hl : ∀ e, e ∈ es → 0 ≤ e.2.1 ∧ e.2.1 < (ls.length : Int)) {x y : Int} {s : ByteArray} : (x, s, y) ∈ turnA hd ls es ↔ hideT (stI ls es) hd x s y := by
 unfold turnA hideT
 constructor
 ·intro h
  obtain ⟨a, ha, e⟩ := List.mem_map.1 h;obtain ⟨e0, he0, rfl⟩ := List.mem_map.1 ha;injection e with e1 e2;injection e2 with e2 e3;have hlt := hl e0 he0;refine ⟨(arcOf ls e0).2.1, ⟨e0.2.1, ?_, hlt.1, ?_⟩, e2.symm⟩
  ·rw [← e1, ← e3]
   exact he0
  ·unfold arcOf
   dsimp only;rw [List.getElem?_eq_getElem (show e0.2.1.toNat < ls.length by omega)]
   rfl
 ·rintro ⟨s0, ⟨l, h1, h2, h3⟩, rfl⟩
  refine List.mem_map.2 ⟨arcOf ls (x, l, y), List.mem_map.2 ⟨_, h1, rfl⟩, ?_⟩;unfold arcOf;dsimp only;rw [h3]
  rfl
theorem turnA_lab (hl : ∀ e, e ∈ es → 0 ≤ e.2.1 ∧ e.2.1 < (ls.length : Int)) (a : Arc) (ha : a ∈ turnA hd ls es) : a.2.1 ∈ joiF (ls.map hd) := by
 unfold turnA at ha;obtain ⟨b, hb, rfl⟩ := List.mem_map.1 ha;obtain ⟨e0, he0, rfl⟩ := List.mem_map.1 hb;refine (joi_mem_iff _ _).2 (.inr (List.mem_map.2 ⟨_, arcOf_mem (hl e0 he0), rfl⟩))
theorem turn_st (hl : ∀ e, e ∈ es → 0 ≤ e.2.1 ∧ e.2.1 < (ls.length : Int)) {x y : Int} {s : ByteArray} : stI (joiF (ls.map hd)) (ltsEs (ls.map hd) (turnA hd ls es)) x s y ↔ hideT (stI ls es) hd x s y :=
 (ltsEs_st (turnA_lab hl)).trans (turnA_mem hl)
theorem turnA_ends {st : Int} (he : ∀ e, e ∈ es → (0 ≤ e.1 ∧ e.1 < st) ∧ (0 ≤ e.2.1 ∧ e.2.1 < (ls.length : Int)) ∧ 0 ≤ e.2.2 ∧ e.2.2 < st) (a : Arc) (ha : a ∈ turnA hd ls es) : (0 ≤ a.1 ∧ a.1 < st) ∧ 0 ≤ a.2.2 ∧ a.2.2 < st := by
 unfold turnA at ha;obtain ⟨b, hb, rfl⟩ := List.mem_map.1 ha;obtain ⟨e0, he0, rfl⟩ := List.mem_map.1 hb;have := he e0 he0;exact ⟨this.1, this.2.2⟩
end
theorem names_lab {ls : List ByteArray} (h : namesB ls = true) (x : ByteArray) (hx : x ∈ ls) : x = tauB ∨ labS x = true := by
 obtain ⟨k, hk⟩ := List.getElem?_of_mem hx
 by_cases k0 : k = 0
 ·subst k0
  rw [labs_zero h] at hk;exact .inl (Option.some.inj hk).symm
 ·have hl := (List.getElem?_eq_some_iff.1 hk).1
  obtain ⟨y, hy⟩ : ∃ y, ls[k - 1]? = some y := ⟨_, List.getElem?_eq_getElem (by omega)⟩;have h1 := h;unfold namesB at h1;rw [Bool.and_eq_true] at h1;have h2 := allK_get h1.2 hl;rw [okL_at hk (by omega) hy] at h2;simp only [Bool.and_eq_true] at h2;exact .inr h2.1.1
theorem names_tau {ls : List ByteArray} (h : namesB ls = true) : tauB ∈ ls := List.mem_of_getElem? (labs_zero h)
theorem names_sub {ls ts : List ByteArray} (h : namesB ls = true) (hs : ∀ s, s ∈ ts → s = tauB ∨ s ∈ ls) : namesB (joiF ts) = true := by
 have h1 : (joiF ts).length ≤ ls.length := sub_lenG (joi_nodup _) fun s h2 => by
  rcases (joi_mem_iff _ _).1 h2 with rfl | h2
  ·exact names_tau h
  ·rcases hs s h2 with rfl | h3
   ·exact names_tau h
   ·exact h3
 refine joi_names (fun x hx => ?_) ?_
 ·rcases hs x hx with h2 | h2
  ·exact .inl h2
  ·exact names_lab h x h2
 ·have h3 := h
  unfold namesB at h3;rw [Bool.and_eq_true] at h3;have := inB_true.1 h3.1;omega
section
variable {hd : ByteArray → ByteArray} {ls : List ByteArray} {es : List Ed}
theorem turn_valid {st ini : Int} (h : ltsV (st, ini, ls, es) = true) (hh : ∀ s, hd s = s ∨ hd s = tauB) : ltsV (st, ini, joiF (ls.map hd), ltsEs (ls.map hd) (turnA hd ls es)) = true := by
 obtain ⟨h1, h2, h3⟩ := ltsV_edge h;obtain ⟨h4, h5⟩ := ltsV_names h;refine ltsEs_valid h2 h3 (names_sub h4 fun s hs => ?_) (Nat.le_trans (ltsEs_len _ _) ?_) (turnA_lab fun e he => (h1 e he).2.1) (turnA_ends h1)
 ·obtain ⟨x, hx, rfl⟩ := List.mem_map.1 hs
  rcases hh x with e | e
  ·rw [e]; exact .inr hx
  ·exact .inl e
 ·unfold turnA
  rw [List.length_map, List.length_map];exact h5
end
section
variable {Na ia Nb ib : Int} {la lb : List ByteArray} {ea eb : List Ed} {sh : ByteArray → Bool} {W : List (Int × Int)} {arcs : List Arc} {i : Nat}
theorem prod_lab (h : ProdL (stI la ea) (stI lb eb) sh ia ib W arcs i) (a : Arc) (ha : a ∈ arcs) : a.2.1 ∈ joiF (la ++ lb) := by
 obtain ⟨f, s, t⟩ := a;obtain ⟨k, m, p, q, -, -, -, -, h1⟩ := (h.is f s t).1 ha;have hA : ∀ {x y : Int}, stI la ea x s y → s ∈ joiF (la ++ lb) := fun ⟨l, _, _, g⟩ => (joi_mem_iff _ _).2 (.inr (List.mem_append_left _ (List.mem_of_getElem? g)))
 have hB : ∀ {x y : Int}, stI lb eb x s y → s ∈ joiF (la ++ lb) := fun ⟨l, _, _, g⟩ => (joi_mem_iff _ _).2 (.inr (List.mem_append_right _ (List.mem_of_getElem? g)))
 rcases h1 with h1 | h1 | h1
 ·exact hA h1.2.1
 ·exact hB h1.2.1
 ·exact hA h1.2.1
def prodD (W : List (Int × Int)) (i : Nat) (la lb : List ByteArray) (arcs : List Arc) : DL := ((W.length : Int), (i : Int), joiF (la ++ lb), ltsEs (la ++ lb) arcs)
theorem prod_valid (va : ltsV (Na, ia, la, ea) = true) (vb : ltsV (Nb, ib, lb, eb) = true) (h : ProdL (stI la ea) (stI lb eb) sh ia ib W arcs i) (hW : W.length ≤ 40) (hJ : (joiF (la ++ lb)).length ≤ 12) (hE : (ltsEs (la ++ lb) arcs).length ≤ 300) : ltsV (prodD W i la lb arcs) = true := by
 have h1 := h.few;refine ltsEs_valid (by omega) (by omega) (joi_names (fun x hx => ?_) hJ) hE (prod_lab h) h.ends
 rcases List.mem_append.1 hx with hx | hx
 ·exact names_lab (ltsV_names va).1 x hx
 ·exact names_lab (ltsV_names vb).1 x hx
theorem prod_sizes (h : ltsV (prodD W i la lb arcs) = true) : W.length ≤ 40 ∧ (joiF (la ++ lb)).length ≤ 12 ∧ (ltsEs (la ++ lb) arcs).length ≤ 300 := by
 have h1 := (ltsV_edge h).2.1;obtain ⟨h2, h3⟩ := ltsV_names h;unfold namesB at h2;rw [Bool.and_eq_true] at h2;have := inB_true.1 h2.1;exact ⟨by omega, by omega, h3⟩
theorem prodT_swap {A B : Int → ByteArray → Int → Prop} {p q : Int × Int} {s : ByteArray} (h : prodT B A sh (p.2, p.1) s q) : prodT A B sh p s (q.2, q.1) := prod_swap h
theorem prod_dual {W' : List (Int × Int)} {arcs' : List Arc} {i' : Nat} (va : ltsV (Na, ia, la, ea) = true) (vb : ltsV (Nb, ib, lb, eb) = true) (h : ProdL (stI la ea) (stI lb eb) sh ia ib W arcs i) (h' : ProdL (stI lb eb) (stI la ea) sh ib ia W' arcs' i') (hv : ltsV (prodD W i la lb arcs) = true) : ltsV (prodD W' i' lb la arcs') = true := by
 obtain ⟨h1, h2, h3⟩ := prod_sizes hv;obtain ⟨h4, g, h5⟩ := h.sub h' (φ := fun p => (p.2, p.1)) (hd := id) rfl fun p s q hq => ⟨s, (q.2, q.1), prodT_swap hq, rfl, rfl⟩
 refine prod_valid vb va h' (by omega) (Nat.le_trans (joiF_sub fun s hs => .inr ?_) h2) (Nat.le_trans (ltsEs_sub (prod_lab h) h5) h3);exact List.mem_append.2 (List.mem_append.1 hs).symm
theorem prod_alike {W' : List (Int × Int)} {arcs' : List Arc} {i' : Nat} (h : ProdL (stI la ea) (stI lb eb) sh ia ib W arcs i) (h' : ProdL (stI lb eb) (stI la ea) sh ib ia W' arcs' i') : Bis (tE (joiF (la ++ lb)) (ltsEs (la ++ lb) arcs)) (tE (joiF (lb ++ la)) (ltsEs (lb ++ la) arcs')) i i' :=
 bisG_bis ((h.bis (prod_lab h)).trans ((prod_comm _ _).trans (h'.bis (prod_lab h')).symm))
abbrev trnL (hd : ByteArray → ByteArray) (ls : List ByteArray) : List ByteArray := joiF (ls.map hd)
abbrev trnE (hd : ByteArray → ByteArray) (ls : List ByteArray) (es : List Ed) : List Ed := ltsEs (ls.map hd) (turnA hd ls es)
theorem trn_rel (va : ltsV (Na, ia, la, ea) = true) (hd : ByteArray → ByteArray) : stI (trnL hd la) (trnE hd la ea) = hideT (stI la ea) hd := by
 funext x s y
 exact propext (turn_st fun e he => ((ltsV_edge va).1 e he).2.1)
theorem trn_hide {hd : ByteArray → ByteArray} (va : ltsV (Na, ia, la, ea) = true) (vb : ltsV (Nb, ib, lb, eb) = true) (hs : ∀ s, sh (hd s) = sh s) (hi : ∀ s, sh s = true → hd s = s) : prodT (stI (trnL hd la) (trnE hd la ea)) (stI (trnL hd lb) (trnE hd lb eb)) sh = hideT (prodT (stI la ea) (stI lb eb) sh) hd := by
 rw [trn_rel va hd, trn_rel vb hd]
 funext p s q
 exact propext (hide_prod hs hi).symm
theorem prod_hidden {hd : ByteArray → ByteArray} {W' : List (Int × Int)} {arcs' : List Arc} {i' : Nat} (va : ltsV (Na, ia, la, ea) = true) (vb : ltsV (Nb, ib, lb, eb) = true) (hh : ∀ s, hd s = s ∨ hd s = tauB) (hs : ∀ s, sh (hd s) = sh s) (hi : ∀ s, sh s = true → hd s = s)
  (h : ProdL (stI la ea) (stI lb eb) sh ia ib W arcs i) (h' : ProdL (stI (trnL hd la) (trnE hd la ea)) (stI (trnL hd lb) (trnE hd lb eb)) sh ia ib W' arcs' i') (hv : ltsV (prodD W i la lb arcs) = true) : ltsV (prodD W' i' (trnL hd la) (trnL hd lb) arcs') = true := by
 obtain ⟨h1, h2, h3⟩ := prod_sizes hv;obtain ⟨h4, g, h5⟩ := h.sub h' (φ := id) (hd := hd) rfl fun p s q hq => by
  rw [trn_hide va vb hs hi] at hq;obtain ⟨s0, k, rfl⟩ := hq;exact ⟨s0, q, k, rfl, rfl⟩
 have key : ∀ ls : List ByteArray, ∀ s, s ∈ trnL hd ls → s = tauB ∨ s ∈ ls := fun ls s hs => by
  rcases (joi_mem_iff _ _).1 hs with e | e
  ·exact .inl e
  ·obtain ⟨x, hx, rfl⟩ := List.mem_map.1 e
   rcases hh x with e | e
   ·rw [e]; exact .inr hx
   ·exact .inl e
 refine prod_valid (turn_valid va hh) (turn_valid vb hh) h' (by omega) (Nat.le_trans (joiF_sub fun s hs => ?_) h2) (Nat.le_trans (ltsEs_sub (prod_lab h) h5) h3)
 rcases List.mem_append.1 hs with hs | hs
 ·exact (key la s hs).imp id fun h => List.mem_append_left _ h
 ·exact (key lb s hs).imp id fun h => List.mem_append_right _ h
theorem prod_hide_alike {hd : ByteArray → ByteArray} {W' : List (Int × Int)} {arcs' : List Arc} {i' : Nat} (va : ltsV (Na, ia, la, ea) = true) (vb : ltsV (Nb, ib, lb, eb) = true) (hs : ∀ s, sh (hd s) = sh s) (hi : ∀ s, sh s = true → hd s = s)
  (h : ProdL (stI la ea) (stI lb eb) sh ia ib W arcs i) (h' : ProdL (stI (trnL hd la) (trnE hd la ea)) (stI (trnL hd lb) (trnE hd lb eb)) sh ia ib W' arcs' i') (hv : ltsV (prodD W i la lb arcs) = true) :
  Bis (tE (trnL hd (joiF (la ++ lb))) (trnE hd (joiF (la ++ lb)) (ltsEs (la ++ lb) arcs))) (tE (joiF (trnL hd la ++ trnL hd lb)) (ltsEs (trnL hd la ++ trnL hd lb) arcs')) i i' := by
 have hl : ∀ e, e ∈ ltsEs (la ++ lb) arcs → 0 ≤ e.2.1 ∧ e.2.1 < ((joiF (la ++ lb)).length : Int) := fun e he => (ltsEs_ends (prod_lab h) h.ends e he).2.1
 have hn : ∀ e, e ∈ trnE hd (joiF (la ++ lb)) (ltsEs (la ++ lb) arcs) → 0 ≤ e.1 ∧ 0 ≤ e.2.2 := fun e he => by
  have := ltsEs_ends (turnA_lab hl) (turnA_ends (ltsEs_ends (prod_lab h) h.ends)) e he;omega
 have h1 := stI_bis (ls := trnL hd (joiF (la ++ lb))) hn i;have h2 : stI (trnL hd (joiF (la ++ lb))) (trnE hd (joiF (la ++ lb)) (ltsEs (la ++ lb) arcs)) = hideT (stI (joiF (la ++ lb)) (ltsEs (la ++ lb) arcs)) hd := by
  funext x s y
  exact propext (turn_st hl)
 rw [h2] at h1;have hn2 : ∀ e, e ∈ ltsEs (la ++ lb) arcs → 0 ≤ e.1 ∧ 0 ≤ e.2.2 := fun e he => by
  have := ltsEs_ends (prod_lab h) h.ends e he;omega
 have h3 : BisG (stI (joiF (la ++ lb)) (ltsEs (la ++ lb) arcs)) (prodT (stI la ea) (stI lb eb) sh) (i : Int) (ia, ib) := (stI_bis (ls := joiF (la ++ lb)) hn2 i).symm.trans (h.bis (prod_lab h));have h4 := hide_bis (h := hd) h3;have h5 := h'.bis (prod_lab h');rw [trn_hide va vb hs hi] at h5;exact bisG_bis (h1.trans (h4.trans h5.symm))
end
end Go.Proofs.YtnhomkmfbngmgaaGreatDoor
namespace Go.Proofs.YtnhomkmfbngmgaaGreatDoor
open Go.ChangeShapes Go.WideShapes Go.ChangeAt Go.RowKit
theorem addT_mem {T : List (Int × Int)} {q x : Int × Int} : x ∈ addT T q ↔ x ∈ T ∨ x = q := by
 unfold addT
 split
 ·constructor
  ·exact .inl
  ·rintro (h | rfl)
   ·exact h
   ·assumption
 ·simp
theorem addT_pre (T : List (Int × Int)) (q : Int × Int) : T <+: addT T q := by
 unfold addT
 split
 ·exact List.prefix_refl _
 ·exact List.prefix_append _ _
theorem addT_nodup {T : List (Int × Int)} (h : T.Nodup) (q : Int × Int) : (addT T q).Nodup := by
 unfold addT
 split
 ·exact h
 ·rename_i hn
  refine List.nodup_append.2 ⟨h, by simp, fun a ha b hb e => ?_⟩;rw [List.mem_singleton.1 hb] at e;exact hn (e ▸ ha)
theorem pre_get {α : Type} {T T' : List α} (h : T <+: T') {k : Nat} {p : α} (hk : T[k]? = some p) : T'[k]? = some p := by
 obtain ⟨M, rfl⟩ := h;rw [List.getElem?_append_left (List.getElem?_eq_some_iff.1 hk).1];exact hk
structure PInv (A B : Int → ByteArray → Int → Prop) (sh : ByteArray → Bool) (a b Na Nb : Int) (T : List (Int × Int)) (L : List Lk) (i : Nat) : Prop where
 nd : T.Nodup
 ini : T[0]? = some (a, b)
 rng : ∀ p, p ∈ T → (0 ≤ p.1 ∧ p.1 < Na) ∧ 0 ≤ p.2 ∧ p.2 < Nb
 snd : ∀ l, l ∈ L → l.1 ∈ T ∧ l.2.2 ∈ T ∧ prodT A B sh l.1 l.2.1 l.2.2
 cpl : ∀ (k : Nat) (p : Int × Int), k < i → T[k]? = some p → ∀ s q, prodT A B sh p s q → (p, s, q) ∈ L
 min : ∀ P : Int × Int → Prop, P (a, b) → (∀ p s q, P p → prodT A B sh p s q → P q) → ∀ p, p ∈ T → P p
section
variable {A B : Int → ByteArray → Int → Prop} {sh : ByteArray → Bool} {a b Na Nb : Int} {T : List (Int × Int)} {L : List Lk} {i : Nat}
theorem PInv.start (h1 : 0 ≤ a ∧ a < Na) (h2 : 0 ≤ b ∧ b < Nb) : PInv A B sh a b Na Nb [(a, b)] [] 0 where
 nd := by simp
 ini := rfl
 rng := fun p hp => by rw [List.mem_singleton.1 hp]; exact ⟨h1, h2⟩
 snd := fun l hl => by cases hl
 cpl := fun k p hk => by omega
 min := fun P h0 _ p hp => by rw [List.mem_singleton.1 hp]; exact h0
theorem PInv.lead (h : PInv A B sh a b Na Nb T L i) {p q : Int × Int} {s : ByteArray} (hp : p ∈ T) (hs : prodT A B sh p s q) (hq : (0 ≤ q.1 ∧ q.1 < Na) ∧ 0 ≤ q.2 ∧ q.2 < Nb) (hi : i ≤ T.length) : PInv A B sh a b Na Nb (addT T q) (L ++ [(p, s, q)]) i where
 nd := addT_nodup h.nd q
 ini := pre_get (addT_pre T q) h.ini
 rng := fun x hx => by
  rcases addT_mem.1 hx with hx | rfl
  ·exact h.rng x hx
  ·exact hq
 snd := fun l hl => by
  rcases List.mem_append.1 hl with hl | hl
  ·obtain ⟨h1, h2, h3⟩ := h.snd l hl
   exact ⟨addT_mem.2 (.inl h1), addT_mem.2 (.inl h2), h3⟩
  ·rw [List.mem_singleton.1 hl]
   exact ⟨addT_mem.2 (.inl hp), addT_mem.2 (.inr rfl), hs⟩
 cpl := fun k x hk hx t y hy => by
  have h1 : T[k]? = some x := by
   have h2 : k < T.length := by omega
   have h3 := pre_get (addT_pre T q) (List.getElem?_eq_getElem h2);rw [hx] at h3;rw [List.getElem?_eq_getElem h2];exact h3.symm
  exact List.mem_append_left _ (h.cpl k x hk h1 t y hy)
 min := fun P h0 hc x hx => by
  rcases addT_mem.1 hx with hx | rfl
  ·exact h.min P h0 hc x hx
  ·exact hc p s _ (h.min P h0 hc p hp) hs
theorem PInv.next (h : PInv A B sh a b Na Nb T L i) {p : Int × Int} (hp : T[i]? = some p) (hc : ∀ s q, prodT A B sh p s q → (p, s, q) ∈ L) : PInv A B sh a b Na Nb T L (i + 1) :=
 ⟨h.nd, h.ini, h.rng, h.snd, fun k x hk hx s q hq => by
  by_cases e : k = i
  ·subst e
   rw [hp] at hx;obtain rfl := Option.some.inj hx;exact hc s q hq
  ·exact h.cpl k x (by omega) hx s q hq, h.min⟩
theorem PInv.few (h : PInv A B sh a b Na Nb T L i) (ha : Na ≤ 40) (hb : Nb ≤ 40) : T.length ≤ 1600 := by
 have h1 := sub_lenG h.nd (M := (List.range 40).flatMap fun x : Nat => (List.range 40).map fun y : Nat => ((x : Int), (y : Int))) fun p hp => by
  have := h.rng p hp;refine List.mem_flatMap.2 ⟨p.1.toNat, List.mem_range.2 (by omega), List.mem_map.2 ⟨p.2.toNat, List.mem_range.2 (by omega), ?_⟩⟩;exact Prod.ext (Int.toNat_of_nonneg this.1.1) (Int.toNat_of_nonneg this.2.1)
 have h2 : ((List.range 40).flatMap fun x : Nat => (List.range 40).map fun y : Nat => ((x : Int), (y : Int))).length = 1600 := by decide +kernel
 omega
end
def PS0 (w0 wr : World) (bl bn bt bm : Nat) (L : List Lk) (T : List (Int × Int)) (mb : Nat) : Prop :=
 ∃ (B : Option Addr) (m d : Nat) (A : Option Addr) (n c k : Nat) (f : Int × Int → Option Int), ProW w0 wr bl bn bt bm B m d L A n c T k f ∧ (∀ q, (f q).isSome = true ↔ q ∈ T) ∧ k ≤ m + 1 ∧ m ≤ mb
def PSp (w0 wr : World) (bl bp bn bt bm : Nat) (p : Int × Int) (L : List Lk) (T : List (Int × Int)) (mb : Nat) : Prop :=
 ∃ (B : Option Addr) (m d : Nat) (A : Option Addr) (n c k : Nat) (f : Int × Int → Option Int), ProW w0 wr bl bn bt bm B m d L A n c T k f ∧ (∀ q, (f q).isSome = true ↔ q ∈ T) ∧ k ≤ m + 1 ∧ m ≤ mb ∧
  wr.heap[bp]? = some (.cells #[.int .i64 p.1, .int .i64 p.2] 192 (0, 0)) ∧ some bp ≠ (Value.slice A n c).ownBlock
def KeepO (w w' : World) : Prop := ∀ (g : Nat) (cur : Array Value) (e : TypeId), w.heap[g]? = some (.cells cur e (0, 0)) → e ≠ 194 → e ≠ 193 → e ≠ 196 → e ≠ 192 → w'.heap[g]? = some (.cells cur e (0, 0))
theorem KeepO.own {α : Type} {size : Nat} {f : α → List Value} {w w' : World} {base n c : Nat} {e : TypeId} {A : Option Addr} {l : List α} (h : KeepO w w') (o : Own size f w base e A n c l) (h1 : e ≠ 194) (h2 : e ≠ 193) (h3 : e ≠ 196) (h4 : e ≠ 192) : Own size f w' base e A n c l := o.keep fun g hg => by
 obtain ⟨-, -, cur, hc⟩ := o.typedK hg;rw [hc];exact h g cur e hc h1 h2 h3 h4
section
variable {w0 wr w' : World} {bl bp bn bt bm : Nat} {p : Int × Int} {L : List Lk} {T : List (Int × Int)} {mb : Nat}
theorem PS0.below (h : PS0 w0 wr bl bn bt bm L T mb) (hb : Below wr.heap.size wr w') : PS0 w0 w' bl bn bt bm L T mb := by
 obtain ⟨B, m, d, A, n, c, k, f, h1, h2⟩ := h;exact ⟨B, m, d, A, n, c, k, f, h1.below hb, h2⟩
theorem PSp.below (h : PSp w0 wr bl bp bn bt bm p L T mb) (hb : Below wr.heap.size wr w') : PSp w0 w' bl bp bn bt bm p L T mb := by
 obtain ⟨B, m, d, A, n, c, k, f, h1, h2, h3, h4, h5, h6⟩ := h;exact ⟨B, m, d, A, n, c, k, f, h1.below hb, h2, h3, h4, (hb.block bp (blk_lt h5)).trans h5, h6⟩
theorem PSp.bel (h : PSp w0 wr bl bp bn bt bm p L T mb) : Below w0.heap.size w0 wr := by
 obtain ⟨B, m, d, A, n, c, k, f, h1, -⟩ := h;exact h1.bel
theorem PS0.bel (h : PS0 w0 wr bl bn bt bm L T mb) : Below w0.heap.size w0 wr := by
 obtain ⟨B, m, d, A, n, c, k, f, h1, -⟩ := h;exact h1.bel
theorem PSp.forget (h : PSp w0 wr bl bp bn bt bm p L T mb) : PS0 w0 wr bl bn bt bm L T mb := by
 obtain ⟨B, m, d, A, n, c, k, f, h1, h2, h3, h4, -⟩ := h;exact ⟨B, m, d, A, n, c, k, f, h1, h2, h3, h4⟩
theorem PSp.wide (h : PSp w0 wr bl bp bn bt bm p L T mb) {mb' : Nat} (hm : mb ≤ mb') : PSp w0 wr bl bp bn bt bm p L T mb' := by
 obtain ⟨B, m, d, A, n, c, k, f, h1, h2, h3, h4, h5⟩ := h;exact ⟨B, m, d, A, n, c, k, f, h1, h2, h3, by omega, h5⟩
theorem PSp.cells (h : PSp w0 wr bl bp bn bt bm p L T mb) : wr.cell? ⟨bp, 0, none⟩ = some (.int .i64 p.1) ∧ wr.cell? ⟨bp, 1, none⟩ = some (.int .i64 p.2) := by
 obtain ⟨B, m, d, A, n, c, k, f, h1, h2, h3, h4, h5, -⟩ := h;exact ⟨cR 0 h5, cR 1 h5⟩
theorem PS0.pick (h : PS0 w0 wr bl bn bt bm L T mb) (x y : Int) : PSp w0 (wr.alloc (.cells #[.int .i64 x, .int .i64 y] 192)) bl wr.heap.size bn bt bm (x, y) L T mb := by
 obtain ⟨B, m, d, A, n, c, k, f, h1, h2, h3, h4⟩ := h;refine ⟨B, m, d, A, n, c, k, f, h1.below (bR.alloc zR _), h2, h3, h4, heap_alloc_new wr _, fun e => ?_⟩;have := (h1.todo.lt _ e.symm).2;omega
theorem PSp.lead (h : PSp w0 wr bl bp bn bt bm p L T mb) (q1 q2 : Int) (s : ByteArray) (hpr : (0 ≤ q1 ∧ q1 ≤ 100) ∧ 0 ≤ q2 ∧ q2 ≤ 100) (hT : T.length ≤ 1600) (hmb : mb ≤ 50000000) :
  Calls Tryz.prog 179 #[.string s, .agg #[.int .i64 q1, .int .i64 q2], .pointer (some ⟨bl, 0, none⟩), .pointer (some ⟨bp, 0, none⟩), .pointer (some ⟨bn, 0, none⟩), .pointer (some ⟨bt, 0, none⟩)] wr fun e w' =>
   e = .returned (.tuple #[]) ∧ PSp w0 w' bl bp bn bt bm p (L ++ [(p, s, q1, q2)]) (addT T (q1, q2)) (mb + 1) ∧ KeepO wr w' ∧ wr.heap.size ≤ w'.heap.size := by
 obtain ⟨B, m, d, A, n, c, k, f, h1, h2, h3, h4, h5, h6⟩ := h;have hn := h1.todo.len;refine (lead_calls h1 h2 p.1 p.2 q1 q2 s h5 hpr (by omega) (by omega) (by omega)).mono ?_;rintro e w' ⟨B', d', A', n', c', k', f', rfl, g1, g2, g3, g4, g5, g6, g7⟩;refine ⟨rfl, ⟨B', m + 1, d', A', n', c', k', f', g1, g2, by omega, by omega, g3 bp _ _ h5 (by decide) (by decide) (by decide) (fun _ => h6), ?_⟩, fun g cur e hq e1 e2 e3 e4 => g3 g cur e hq e1 e2 e3 (fun h => absurd h e4), g7⟩
 rcases g6 with e | ⟨q, e, hq⟩
 ·rw [e]; exact h6
 ·rw [e]
  intro e2;injection e2 with e2;have := blk_lt h5;omega
end
def lexC : List Int → List Int → Int
 | [], [] => 0
 | [], _ :: _ => -1
 | _ :: _, [] => 1
 | a :: l, b :: r => if a = b then lexC l r else cmpI a b
theorem lexC_same : ∀ (z l r : List Int), lexC (z ++ l) (z ++ r) = lexC l r
 | [], _, _ => rfl
 | a :: z, l, r => by rw [List.cons_append, List.cons_append]; show (if a = a then lexC (z ++ l) (z ++ r) else _) = _; rw [if_pos rfl]; exact lexC_same z l r
section
variable {l r : List Int} {k : Nat} {a b : Int}
theorem split_lx (h : l[k]? = some a) : l = l.take k ++ a :: l.drop (k + 1) := by
 obtain ⟨hk, rfl⟩ := List.getElem?_eq_some_iff.1 h;rw [← List.drop_eq_getElem_cons hk, List.take_append_drop]
theorem lexC_ne (e : l.take k = r.take k) (hl : l[k]? = some a) (hr : r[k]? = some b) (h : a ≠ b) : lexC l r = cmpI a b := by
 rw [split_lx hl, split_lx hr, e, lexC_same]
 show (if a = b then _ else cmpI a b) = _
 rw [if_neg h]
theorem lexC_long (e : l.take k = r.take k) (hl : l[k]? = some a) (hr : r.length = k) : lexC l r = 1 := by
 rw [split_lx hl, e, List.take_of_length_le (by omega)];have := lexC_same r (a :: l.drop (k + 1)) [];rw [List.append_nil] at this;rw [this]; rfl
theorem lexC_end (e : l.take k = r.take k) (hl : l.length = k) : lexC l r = if k < r.length then -1 else 0 := by
 have h1 : r = l ++ r.drop k := by
  have := List.take_append_drop k r;rw [← e, List.take_of_length_le (by omega)] at this;exact this.symm
 have h2 := lexC_same l [] (r.drop k);rw [List.append_nil, ← h1] at h2;rw [h2]
 cases h3 : r.drop k with
 | nil =>
  have : r.length ≤ k := List.drop_eq_nil_iff.1 h3;rw [if_neg (by omega)]; rfl
 | cons x xs =>
  have : ¬ r.length ≤ k := fun c => by rw [List.drop_eq_nil_of_le c] at h3; cases h3
  rw [if_pos (by omega)]; rfl
end
theorem cmpI_self (a : Int) : cmpI a a = 0 := by unfold cmpI; rw [if_neg (by omega), if_neg (by omega)]
theorem cmpI_ne {a b : Int} (h : a ≠ b) : cmpI a b ≠ 0 := by unfold cmpI; split <;> (try split) <;> omega
theorem compareL_calls (A B : Option Addr) (n m c d : Nat) (l r : List Int) (w : World) (lo hi lo' hi' : Nat) (h : SlI w lo hi A n l) (g : SlI w lo' hi' B m r) (hn : n ≤ 1048576) (hm : m ≤ 1048576) :
  Calls Tryz.prog 184 #[.slice A n c, .slice B m d] w fun e w' => e = .returned (.int .i64 (lexC l r)) ∧ w = w' := by
 have q := hide (fun a b W => compare_calls a b W);have hln := hide h.len;have hrm := hide g.len;replace h := hide h;replace g := hide g;go_enter Tryz.func184, Tryz.ntmps184;go_wp2_with fail
 go_loop [11] (fun i => ∃ k : Nat, k ≤ n ∧ k ≤ m ∧ i = .int .i64 (k : Nat) ∧ Hid (l.take k = r.take k)) (fun i => n - (intOf i).toNat)
 case atStart => exact ⟨0, Nat.zero_le _, Nat.zero_le _, rfl, rfl⟩
 case round =>
  obtain ⟨k, hk, hkm, rfl, he⟩ := hrel
  by_cases hlt : k < n
  ·have k0 : (0 : Int) ≤ (k : Int) := by omega
   have k1 : (k : Int) < (n : Int) := by omega
   obtain ⟨b1, o1, x, rfl, -, -, -, hx, c1, -⟩ := SlI.get h.out hlt
   by_cases hlm : k < m
   ·have k2 : (k : Int) < (m : Int) := by omega
    have k3 : ¬ (k : Int) ≥ (m : Int) := by omega
    obtain ⟨b2, o2, y, rfl, -, -, -, hy, c2, -⟩ := SlI.get g.out hlm
    by_cases hxy : x = y
    ·have hs := hide (take_step he.out hx hy hxy)
     have e0 := hide (cmpI_self y);subst hxy;clear hx hy;go_wp2_with (first | (go_at_call 216; (with_reducible refine (q.out _ _ _).mono ?_); rintro e w' ⟨rfl, rfl⟩; rw [e0.out]))
     go_round
     case rel => exact ⟨k + 1, by omega, by omega, by go_num, hs⟩
     case measure => simp [intOf]; omega
    ·have hv := hide (lexC_ne he.out hx hy hxy)
     have hne := cmpI_ne hxy;have hne2 : (cmpI x y != 0) = true := by simpa using hne
     have q2 := hide (fun W => compare_calls x y W);clear hx hy hxy q;generalize cmpI x y = z at *;go_wp2_with (first | (go_at_call 216; (with_reducible refine (q2.out _).mono ?_); rintro e w' ⟨rfl, rfl⟩));go_ret;exact ⟨ret_i hv.out, rfl⟩
   ·have k3 : (k : Int) ≥ (m : Int) := by omega
    have hv := hide (lexC_long he.out hx (by rw [hrm.out]; omega));clear hx;go_wp2_with fail;go_ret;exact ⟨ret_i hv.out, rfl⟩
  ·have hkn : k = n := by omega
   subst hkn;have hv := lexC_end he.out hln.out;rw [hrm.out] at hv
   by_cases hlm : k < m
   ·rw [if_pos hlm] at hv
    replace hv := hide hv;have k2 : (k : Int) < (m : Int) := by omega
    go_wp2_with fail;go_ret
    exact ⟨ret_i hv.out, rfl⟩
   ·rw [if_neg hlm] at hv
    replace hv := hide hv;have k2 : ¬ (k : Int) < (m : Int) := by omega
    go_wp2_with fail;go_ret
    exact ⟨ret_i hv.out, rfl⟩
end Go.Proofs.YtnhomkmfbngmgaaGreatDoor
namespace Go.Proofs
open Go.Shelf
def Tryz.laysSortP_ren : Go.Shelf.Ren := ⟨fun | 6 => 182 | 15 => 224 | 14 => 251 | 28 => 289 | 29 => 290 | 20 => 307 | 21 => 308 | 22 => 309 | 23 => 310 | 24 => 311 | 25 => 312 | 26 => 313 | 27 => 314 | 46 => 357 | 47 => 340 | 48 => 341 | 49 => 358 | 50 => 359 | 57 => 384 | n => n, fun | 22 => 193 | 24 => 192 | 25 => 202 | 3 => 3 | 39 => 243 | 0 => 0 | 53 => 292 | 55 => 137 | 4 => 4 | 46 => 285 | 45 => 284 | 50 => 289 | 5 => 5 | 9 => 9 | 66 => 327 | 70 => 331 | 76 => 352 | 77 => 353 | n => n, fun | n => n⟩
theorem Tryz.laysSortP : Go.Proofs.SlLaysF0.n6 Tryz.prog Tryz.laysSortP_ren := {
 mixed := by kernel_rfl
 f6 := ⟨Tryz.f182.name, by decide, Tryz.func182.trans (congrArg some (by kernel_rfl))⟩
 f14 := ⟨Tryz.f251.name, by decide, Tryz.func251.trans (congrArg some (by kernel_rfl))⟩
 f15 := Tryz.func224.trans (congrArg some (by kernel_rfl))
 f20 := ⟨Tryz.f307.name, by decide, Tryz.func307.trans (congrArg some (by kernel_rfl))⟩
 f21 := ⟨Tryz.f308.name, by decide, Tryz.func308.trans (congrArg some (by kernel_rfl))⟩
 f22 := ⟨Tryz.f309.name, by decide, Tryz.func309.trans (congrArg some (by kernel_rfl))⟩
 f23 := ⟨Tryz.f310.name, by decide, Tryz.func310.trans (congrArg some (by kernel_rfl))⟩
 f24 := ⟨Tryz.f311.name, by decide, Tryz.func311.trans (congrArg some (by kernel_rfl))⟩
 f25 := ⟨Tryz.f312.name, by decide, Tryz.func312.trans (congrArg some (by kernel_rfl))⟩
 f26 := ⟨Tryz.f313.name, by decide, Tryz.func313.trans (congrArg some (by kernel_rfl))⟩
 f27 := ⟨Tryz.f314.name, by decide, Tryz.func314.trans (congrArg some (by kernel_rfl))⟩
 f28 := Tryz.func289.trans (congrArg some (by kernel_rfl))
 f29 := Tryz.func290.trans (congrArg some (by kernel_rfl))
 f46 := ⟨Tryz.f357.name, by decide, Tryz.func357.trans (congrArg some (by kernel_rfl))⟩
 f47 := Tryz.func340.trans (congrArg some (by kernel_rfl))
 f48 := Tryz.func341.trans (congrArg some (by kernel_rfl))
 f49 := ⟨Tryz.f358.name, by decide, Tryz.func358.trans (congrArg some (by kernel_rfl))⟩
 f50 := ⟨Tryz.f359.name, by decide, Tryz.func359.trans (congrArg some (by kernel_rfl))⟩
 f57 := ⟨Tryz.f384.name, by decide, Tryz.func384.trans (congrArg some (by kernel_rfl))⟩
 t0 := Tryz.underlying0
 a0 := Tryz.isAgg0
 z0 := Tryz.sizeOf0
 v0 := Tryz.zeroValue0
 t3 := Tryz.underlying3
 a3 := Tryz.isAgg3
 z3 := Tryz.sizeOf3
 v3 := Tryz.zeroValue3
 t4 := Tryz.underlying4
 a4 := Tryz.isAgg4
 z4 := Tryz.sizeOf4
 v4 := Tryz.zeroValue4
 t5 := Tryz.underlying5
 a5 := Tryz.isAgg5
 z5 := Tryz.sizeOf5
 v5 := Tryz.zeroValue5
 t9 := Tryz.underlying9
 a9 := Tryz.isAgg9
 z9 := Tryz.sizeOf9
 v9 := Tryz.zeroValue9
 t22 := Tryz.underlying193
 a22 := Tryz.isAgg193
 z22 := Tryz.sizeOf193
 v22 := Tryz.zeroValue193
 t25 := Tryz.underlying202
 a25 := Tryz.isAgg202
 z25 := Tryz.sizeOf202
 v25 := Tryz.zeroValue202
 t39 := Tryz.underlying243
 a39 := Tryz.isAgg243
 z39 := Tryz.sizeOf243
 v39 := Tryz.zeroValue243
 t45 := Tryz.underlying284
 a45 := Tryz.isAgg284
 z45 := Tryz.sizeOf284
 v45 := Tryz.zeroValue284
 t46 := Tryz.underlying285
 a46 := Tryz.isAgg285
 z46 := Tryz.sizeOf285
 v46 := Tryz.zeroValue285
 t50 := Tryz.underlying289
 a50 := Tryz.isAgg289
 z50 := Tryz.sizeOf289
 v50 := Tryz.zeroValue289
 t53 := Tryz.underlying292
 a53 := Tryz.isAgg292
 z53 := Tryz.sizeOf292
 v53 := Tryz.zeroValue292
 t55 := Tryz.underlying137
 a55 := Tryz.isAgg137
 z55 := Tryz.sizeOf137
 v55 := Tryz.zeroValue137
 t66 := Tryz.underlying327
 a66 := Tryz.isAgg327
 z66 := Tryz.sizeOf327
 v66 := Tryz.zeroValue327
 t70 := Tryz.underlying331
 a70 := Tryz.isAgg331
 z70 := Tryz.sizeOf331
 v70 := Tryz.zeroValue331
 t76 := Tryz.underlying352
 a76 := Tryz.isAgg352
 z76 := Tryz.sizeOf352
 v76 := Tryz.zeroValue352
 t77 := Tryz.underlying353
 a77 := Tryz.isAgg353
 z77 := Tryz.sizeOf353
 v77 := Tryz.zeroValue353 }
open Go.Shelf Go.RowKit Go.Lib Go.Sort in
theorem Tryz.slices_SortFunc_pair {α : Type} [Inhabited α] (enc : α → List Value) (hk : ∀ x, (enc x).length = 2) (h1 : ∀ x, ∀ v ∈ enc x, v.oneCell' = true) (cf : α → α → Int) (hO : SWO (ltOf cf)) (g : Nat) (cb : Array Value) (blk off cap : Nat) (d : Array α) (w : World) (eg : ∀ args w, (callFunc g args).run Tryz.prog w = .ok (.enter g args) w) (hcmp : CmpLays Tryz.prog g cb enc 2 cf blk off d.size w) (hH : HoldsK enc 2 w blk off d) (hblk : blk < w.heap.size) (hsz : d.size < 4611686018427387904) (hT : ∀ x y, (ltOf cf) x y = false → (ltOf cf) y x = false → x = y) :
  Calls Tryz.prog 182 #[.slice (some ⟨blk, off, none⟩) d.size cap, .func (.func g) #[] cb] w fun e w' =>
   e = .returned (.tuple #[]) ∧ ∃ n os, w' = sortWorldK enc 2 w blk off n (d.toList.mergeSort fun x y => !(ltOf cf) y x).toArray os := AnyQ.slices_SortFunc_total Tryz.laysSortP 2 Tryz.isAgg192 Tryz.sizeOf192 enc hk h1 cf hO g cb blk off cap d w eg hcmp hH hblk hsz hT
open Go.Shelf Go.RowKit Go.Lib Go.Sort in
theorem Tryz.slices_SortFunc_pair_none (p : Option Addr) (cap : Nat) (fv : Value) (w : World) :
  Calls Tryz.prog 182 #[.slice p 0 cap, fv] w fun e w' => e = .returned (.tuple #[]) ∧ w' = w := AnyF.slices_SortFunc_none Tryz.laysSortP p cap fv w
end Go.Proofs
namespace Go.Proofs.YtnhomkmfbngmgaaGreatDoor
open Go.ChangeShapes Go.WideShapes Go.ChangeAt Go.RowKit Go.Sort Go.Lib
def cmpP (a b : Int × Int) : Int := lexC [a.1, a.2] [b.1, b.2]
def pLess (a b : Int × Int) : Bool := decide (a.1 < b.1 ∨ a.1 = b.1 ∧ a.2 < b.2)
theorem cmpP_neg (a b : Int × Int) : cmpP a b < 0 ↔ (a.1 < b.1 ∨ a.1 = b.1 ∧ a.2 < b.2) := by
 have h : cmpP a b = if a.1 = b.1 then (if a.2 = b.2 then 0 else cmpI a.2 b.2) else cmpI a.1 b.1 := rfl;rw [h];unfold cmpI
 by_cases e1 : a.1 = b.1
 ·rw [if_pos e1]
  by_cases e2 : a.2 = b.2
  ·rw [if_pos e2]; omega
  ·rw [if_neg e2]
   split
   ·omega
   ·split <;> omega
 ·rw [if_neg e1]
  split
  ·omega
  ·split <;> omega
theorem ltOf_cmpP (a b : Int × Int) : ltOf cmpP a b = pLess a b := by
 unfold ltOf pLess;exact decide_eq_decide.2 (cmpP_neg a b)
theorem pLess_iff {a b : Int × Int} : pLess a b = true ↔ a.1 < b.1 ∨ a.1 = b.1 ∧ a.2 < b.2 := by unfold pLess; rw [decide_eq_true_eq]
theorem pLess_not {a b : Int × Int} : pLess a b = false ↔ ¬ (a.1 < b.1 ∨ a.1 = b.1 ∧ a.2 < b.2) := by unfold pLess; rw [decide_eq_false_iff_not]
theorem swoP : SWO (ltOf cmpP) where
 irrefl x := by rw [ltOf_cmpP, pLess_not]; omega
 trans x y z h1 h2 := by rw [ltOf_cmpP, pLess_iff] at *; omega
 ntrans x y z h1 h2 := by rw [ltOf_cmpP, pLess_not] at *; omega
theorem apartP (x y : Int × Int) (h : ltOf cmpP x y = false) (g : ltOf cmpP y x = false) : x = y := by
 rw [ltOf_cmpP, pLess_not] at h g;exact Prod.ext (by omega) (by omega)
def sortP (l : List (Int × Int)) : List (Int × Int) := l.mergeSort fun x y => !(ltOf cmpP) y x
theorem sortP_len (l : List (Int × Int)) : (sortP l).length = l.length := List.length_mergeSort _
theorem sortP_perm (l : List (Int × Int)) : (sortP l).Perm l := List.mergeSort_perm _ _
theorem Own.two {w : World} {g base : Nat} {e : TypeId} {x y : Int} (h : w.heap[g]? = some (.cells #[.int .i64 x, .int .i64 y] e (0, 0))) (hb : base ≤ g) : Own 1 iv w base e (some ⟨g, 0, none⟩) 2 2 [x, y] :=
 ⟨rfl, rfl, .inr ⟨g, 2, _, rfl, hb, h, zR, by unfold maxLen; omega, rfl, rfl⟩⟩
theorem grow2a (w : World) (a b : Obj) : ((w.alloc a).alloc b).drew = grow (w.drewN 1) #[a, b] := by
 unfold grow;have h : (w.heap.push a).push b = w.heap ++ #[a, b] := by
  apply Array.ext'
  simp
 rw [show (w.drewN 1).heap = w.heap from rfl, ← h]
 rfl
theorem pairCmp_calls (x1 x2 y1 y2 : Int) (w : World) :
  Calls Tryz.prog 183 #[.agg #[.int .i64 x1, .int .i64 x2], .agg #[.int .i64 y1, .int .i64 y2]] w fun e w' => e = .returned (.int .i64 (cmpP (x1, x2) (y1, y2))) ∧ ∃ q os, w' = grow (w.drewN q) os := by
 have hv : Hid (cmpP (x1, x2) (y1, y2) = lexC [x1, x2] [y1, y2]) := rfl;have k0 := (Below.heap_alloc (w.alloc (.cells #[.int .i64 x1, .int .i64 x2] 192)) (.cells #[.int .i64 y1, .int .i64 y2] 192) w.heap.size (by simp only [World.size_alloc]; omega)).trans (heap_alloc_new w (.cells #[.int .i64 x1, .int .i64 x2] 192));have k1 := heap_alloc_new (w.alloc (.cells #[.int .i64 x1, .int .i64 x2] 192)) (.cells #[.int .i64 y1, .int .i64 y2] 192);rw [World.size_alloc] at k1;have q := hide (fun (W' : World) (h1 : W'.heap[w.heap.size]? = some (.cells #[.int .i64 x1, .int .i64 x2] 192 (0, 0))) (h2 : W'.heap[w.heap.size + 1]? = some (.cells #[.int .i64 y1, .int .i64 y2] 192 (0, 0))) => compareL_calls (some ⟨w.heap.size, 0, none⟩) (some ⟨w.heap.size + 1, 0, none⟩) 2 2 2 2 [x1, x2] [y1, y2] W' _ _ _ _ ((Own.two h1 (Nat.zero_le _)).sl flat_iv) ((Own.two h2 (Nat.zero_le _)).sl flat_iv) (by omega) (by omega));have hgr : Hid (∃ (q : Nat) (os : Array Obj), (((w.alloc (.cells #[.int .i64 x1, .int .i64 x2] 192)).alloc (.cells #[.int .i64 y1, .int .i64 y2] 192)).drew) = grow (w.drewN q) os) := ⟨1, _, grow2a w _ _⟩;replace k0 := hide k0;replace k1 := hide k1;go_enter Tryz.func183, Tryz.ntmps183;go_wp2_with fail;generalize hW : ((w.alloc (.cells #[.int .i64 x1, .int .i64 x2] 192)).alloc (.cells #[.int .i64 y1, .int .i64 y2] 192)) = W at *;clear hW
 go_region_held3 (fun w' => w'.heap[w.heap.size]? = some (.cells #[.int .i64 x1, .int .i64 x2] 192 (0, 0)) ∧ w'.heap[w.heap.size + 1]? = some (.cells #[.int .i64 y1, .int .i64 y2] 192 (0, 0))) (first | exact ⟨k0.out, k1.out⟩ | go_keep)
  (first | (go_at_call 184; (refine (q.out _ (by exact k0.out) (by exact k1.out)).mono ?_); rintro e w' ⟨rfl, rfl⟩))
 all_goals go_wp2
 all_goals go_ret
 all_goals exact ⟨ret_i (by rw [hv.out]), hgr.out⟩
section
variable {w : World} {base g n c q : Nat} {e : TypeId} {l d : List (Int × Int)} {os : Array Obj}
theorem flatP_get (d : List (Int × Int)) {j : Nat} (hj : j < d.length * 2) : (flatK tv 2 d.toArray)[j]? = (d.flatMap tv)[j]? := by
 have h1 : (flatK tv 2 d.toArray)[j]? = some ((flatK tv 2 d.toArray)[j]!) := by
  rw [getElem!_pos _ j (by simpa using hj), Array.getElem?_eq_getElem (by simpa using hj)]
 rw [h1, get_flatK tv 2 d.toArray j (by simpa using hj)];have hk : j / 2 < d.length := by omega
 have := flat_at flat_tv d (j / 2) d[j / 2] (List.getElem?_eq_getElem hk) (j % 2) ((tv d[j / 2])[j % 2]'(by rw [flat_tv.len]; omega)) (List.getElem?_eq_getElem _);rw [show j / 2 * 2 + j % 2 = j by omega] at this;rw [this, getElem!_pos _ (j / 2) (by simpa using hk)];simp only [List.getElem_toArray];rw [getElem!_pos _ (j % 2) (by rw [flat_tv.len]; omega)]
theorem Own.holdsP (h : Own 2 tv w base e (some ⟨g, 0, none⟩) n c l) : HoldsK tv 2 w g 0 l.toArray := by
 intro j hj;have hj' : j < l.length * 2 := by simpa using hj
 have hs := h.sl flat_tv;have hn := h.len;obtain ⟨b', off', e', -, -, -, hc⟩ := hs.at_ (by omega)
 cases e'
 have hk : j / 2 < l.length := by omega
 have h1 := flatP_get l hj';have h2 := flat_at flat_tv l (j / 2) l[j / 2] (List.getElem?_eq_getElem hk) (j % 2) ((tv l[j / 2])[j % 2]'(by rw [flat_tv.len]; omega)) (List.getElem?_eq_getElem _);rw [show j / 2 * 2 + j % 2 = j by omega] at h2;rw [h2] at h1;have h3 : (flatK tv 2 l.toArray)[j]! = (tv l[j / 2])[j % 2]'(by rw [flat_tv.len]; omega) := by
  rw [getElem!_pos _ j (by simpa using hj)];have := Array.getElem?_eq_getElem (xs := flatK tv 2 l.toArray) (i := j) (by simpa using hj);rw [this] at h1;exact Option.some.inj h1
 have := hc (j / 2) l[j / 2] (List.getElem?_eq_getElem hk) (j % 2) _ (List.getElem?_eq_getElem (by rw [flat_tv.len]; omega));rw [show j / 2 * 2 + j % 2 = j by omega] at this
 show w.cell? ⟨g, 0 + j, none⟩ = some (id ((flatK tv 2 l.toArray)[j]!)) ∧ _
 rw [h3];exact this
theorem Own.putP (h : Own 2 tv w base e (some ⟨g, 0, none⟩) n c l) (hd : d.length = n) : Own 2 tv (sortWorldK tv 2 w g 0 q d.toArray os) base e (some ⟨g, 0, none⟩) n c d := by
 rcases h.2.2 with ⟨hv, -⟩ | ⟨g', cap, cur, hv, hb, hg, hnc, hcm, hcs, htake⟩
 ·cases hv
 ·cases hv
  have hlt : g < w.heap.size := (Array.getElem?_eq_some_iff.1 hg).1;refine ⟨hd, by rw [flat_length flat_tv, hd], .inr ⟨g, c, Go.Sort.putCells id 0 (flatK tv 2 d.toArray) cur, rfl, hb, ?_, hnc, hcm, by simp [Go.Sort.putCells, hcs], ?_⟩⟩
  ·unfold sortWorldK putRowK
   rw [putE_block _ _ _ _ _ hlt, hg]
   rfl
  ·apply List.ext_getElem?
   intro k
   by_cases hk : k < n * 2
   ·have hkc : k < cur.size := by omega
    rw [List.getElem?_take, if_pos hk, Array.getElem?_toList];simp only [Go.Sort.putCells, Array.getElem?_mapIdx, Array.getElem?_eq_getElem hkc, Option.map_some];rw [if_pos ⟨Nat.zero_le _, by simp [hd]; omega⟩, Nat.sub_zero];have := flatP_get d (j := k) (by rw [hd]; exact hk);rw [← this, Array.getElem?_eq_getElem (by simp [hd]; omega), getElem!_pos _ k (by simp [hd]; omega)]
    rfl
   ·rw [List.getElem?_eq_none (by simp; omega), List.getElem?_eq_none (by rw [flat_length flat_tv, hd]; omega)]
end
section
variable {w : World} {base n c : Nat} {e : TypeId} {A : Option Addr} {l : List (Int × Int)}
theorem sortP_calls (h : Own 2 tv w base e A n c l) (hn : n ≤ 1000000000) :
  Calls Tryz.prog 182 #[.slice A n c, .func (.func 183) #[] #[]] w fun en w' => en = .returned (.tuple #[]) ∧ Own 2 tv w' base e A n c (sortP l) ∧ w.grownBy w' (Value.slice A n c).ownBlock := by
 rcases h.2.2 with ⟨hv, hn0⟩ | ⟨g, cap, cur, hv, hb, hg, hnc, hcm, hcs, htake⟩
 ·cases hv
  have hl := List.eq_nil_of_length_eq_zero h.len;subst hl;refine (Tryz.slices_SortFunc_pair_none none 0 _ w).mono ?_;rintro e w' ⟨rfl, rfl⟩;refine ⟨rfl, ?_, ⟨rfl, rfl, rfl, zR, fun _ _ _ => rfl⟩⟩
  simpa [sortP] using h
 ·cases hv
  have hlt : g < w.heap.size := (Array.getElem?_eq_some_iff.1 hg).1;have eg : ∀ args w, (callFunc 183 args).run Tryz.prog w = .ok (.enter 183 args) w := enters_of Tryz.func183 (by kernel_rfl) rfl;have hsz : l.toArray.size = n := by simp [h.len]
  have hcmp : CmpLays Tryz.prog 183 #[] tv 2 cmpP g 0 l.toArray.size w := fun m os dk hs x y => pairCmp_calls x.1 x.2 y.1 y.2 _
  have hq := Tryz.slices_SortFunc_pair tv (fun x => flat_tv.len x) (fun x v hv => flat_tv.one x v hv) cmpP swoP 183 #[] g 0 c l.toArray w eg hcmp h.holdsP hlt (by rw [hsz]; omega) apartP;rw [hsz] at hq;refine hq.mono ?_;rintro e w' ⟨rfl, q, os, rfl⟩;exact ⟨rfl, h.putP (d := sortP l) ((sortP_len l).trans h.len), putE_grown _ _ _ _ _⟩
end
end Go.Proofs.YtnhomkmfbngmgaaGreatDoor
