/-
  Lemmas that the law of this claim leans on. Conditions: sizes.
-/
import Derived.Test.YtnhomkmfbngmgaaGreatDoorBaseA
import Derived.Test.YtnhomkmfbngmgaaGreatDoorBaseB
import Derived.Test.YtnhomkmfbngmgaaGreatDoorBaseD
import Derived.StillTail
import Derived.OrdersHeld
import Derived.Deep.RegionHeld3
import Derived.Ground.SlgnProg
import Derived.Ground.SlgmProg
import Derived.Shelf.SlicesG.Turned
import Derived.Shelf.SlicesG.SearchI
import Derived.Shelf.SlicesG.CompactI
import Derived.Shelf.SlicesG.Cells
import Derived.Shelf.SortM.Plain
import Derived.Shelf.SortM.SortNone
import Derived.Shelf.SlGeneric
import Derived.Test.YtnhomkmfbngmgaaGreatDoorProg
set_option maxHeartbeats 6400000
set_option maxRecDepth 100000
set_option linter.unusedSimpArgs false
set_option linter.unusedVariables false
namespace Go.Proofs.YtnhomkmfbngmgaaGreatDoor
open Go.ChangeShapes Go.WideShapes Go.ChangeAt Go.RowKit
def put4 (w : World) (g : Nat) (v0 v1 v2 v3 : Value) : World := (((w.setCell ⟨g, 0, none⟩ v0).setCell ⟨g, 1, none⟩ v1).setCell ⟨g, 2, none⟩ v2).setCell ⟨g, 3, none⟩ v3
theorem put4_other (w : World) (g : Nat) (v0 v1 v2 v3 : Value) {q : Nat} (h : q ≠ g) : (put4 w g v0 v1 v2 v3).heap[q]? = w.heap[q]? := by
 unfold put4;rw [Below.heap_setCell _ _ _ _ h, Below.heap_setCell _ _ _ _ h, Below.heap_setCell _ _ _ _ h, Below.heap_setCell _ _ _ _ h]
theorem put4_size (w : World) (g : Nat) (v0 v1 v2 v3 : Value) : (put4 w g v0 v1 v2 v3).heap.size = w.heap.size := by unfold put4; simp
theorem put4_only {lo hi g : Nat} {a w : World} (h : Only lo hi a w) (hg : a.heap.size ≤ g) (v0 v1 v2 v3 : Value) : Only lo hi a (put4 w g v0 v1 v2 v3) :=
 (((h.setNew (p := ⟨g, 0, none⟩) hg v0).setNew (p := ⟨g, 1, none⟩) hg v1).setNew (p := ⟨g, 2, none⟩) hg v2).setNew (p := ⟨g, 3, none⟩) hg v3
def DrawnG (K M Q b N : Nat) (w : World) (e : Ending) (w' : World) : Prop := ∃ (st ini : Nat) (A : Option Addr) (n c : Nat) (B : Option Addr) (m d : Nat) (ts : List ByteArray) (es : List Ed),
 e = .returned (.agg #[.int .i64 (st : Int), .int .i64 (ini : Int), .slice A n c, .slice B m d]) ∧ SlS w' w.heap.size w'.heap.size A n (joiF ts) ∧ SlE w' w.heap.size w'.heap.size B m es ∧
 ltsV ((st : Int), (ini : Int), joiF ts, es) = true ∧ st ≤ 7 ∧ es.length ≤ M ∧ n ≤ K ∧ NamD ts ∧ SrcW w' b (N + Q) ∧ Only b (b + 1) w w'
def KindO (nb : Nat) (l : List Int) : Prop := (∀ j : Nat, j < nb → j < l.length → l[j]? = some (j : Int)) ∧ ∀ x, x ∈ l → 0 ≤ x ∧ x < (nb : Int)
theorem KindO.start (nb : Nat) : KindO nb [] := ⟨fun j _ h => absurd h (by simp), fun x h => absurd h List.not_mem_nil⟩
theorem KindO.app {nb : Nat} {l : List Int} (h : KindO nb l) {x : Int} (hx : 0 ≤ x ∧ x < (nb : Int)) (hk : l.length < nb → x = (l.length : Int)) : KindO nb (l ++ [x]) := by
 refine ⟨fun j hj hl => ?_, fun y hy => ?_⟩
 ·rw [List.length_append, List.length_singleton] at hl
  by_cases e : j < l.length
  ·rw [List.getElem?_append_left e]; exact h.1 j hj e
  ·obtain rfl : j = l.length := by omega
   rw [List.getElem?_append_right zR, Nat.sub_self, hk hj]
   rfl
 ·rcases List.mem_append.1 hy with g | g
  ·exact h.2 y g
  ·rw [List.mem_singleton.1 g]; exact hx
def EdD (st m : Nat) (es : List Ed) : Prop := ∀ e, e ∈ es → (0 ≤ e.1 ∧ e.1 < (st : Int)) ∧ (0 ≤ e.2.1 ∧ e.2.1 < (m : Int)) ∧ 0 ≤ e.2.2 ∧ e.2.2 < (st : Int)
theorem EdD.start (st m : Nat) : EdD st m [] := fun e h => absurd h List.not_mem_nil
theorem EdD.app {st m : Nat} {es : List Ed} (h : EdD st m es) {f l t : Int} (h1 : 0 ≤ f ∧ f < (st : Int)) (h2 : 0 ≤ l ∧ l < (m : Int)) (h3 : 0 ≤ t ∧ t < (st : Int)) : EdD st m (es ++ [(f, l, t)]) := fun e he => by
 rcases List.mem_append.1 he with g | g
 ·exact h e g
 ·rw [List.mem_singleton.1 g]; exact ⟨h1, h2, h3⟩
theorem joi_len (ts : List ByteArray) : (joiF ts).length ≤ ts.length + 1 := by
 unfold joiF;rw [List.length_map];refine Nat.le_trans (Go.Lib.compact_length_le _) ?_;rw [List.length_mergeSort, List.length_map, List.length_cons];exact zR
theorem l11DrawOk_calls (b N : Nat) (w : World) (h : SrcW w b N) (hN : N ≤ 700000000) :
  Calls Tryz.prog 113 #[.pointer (some ⟨b, 0, none⟩)] w (DrawnG 6 60 1000 b N w) := by
 have hEi := hide elem_int;have hEe := hide elem_edge;have hbl := h.lt;have hon0 := (Only.refl b (b + 1) w).alloc' (.cells #[.int .i64 0, .int .i64 0, .slice none 0 0, .slice none 0 0] 27);have k8 := heap_alloc_new w (.cells #[.int .i64 0, .int .i64 0, .slice none 0 0, .slice none 0 0] 27);have hS0 := h.alloc (.cells #[.int .i64 0, .int .i64 0, .slice none 0 0, .slice none 0 0] 27);have hz0 : w.heap.size < (w.alloc (.cells #[.int .i64 0, .int .i64 0, .slice none 0 0, .slice none 0 0] 27)).heap.size := by simp
 obtain ⟨wA, hwA⟩ : ∃ wA, wA = w.alloc (.cells #[.int .i64 0, .int .i64 0, .slice none 0 0, .slice none 0 0] 27) := ⟨_, rfl⟩;rw [← hwA] at hon0 k8 hS0 hz0;have q1 := hide (pick_calls b N 4 wA hS0 (by omega));replace hon0 := hide hon0;replace k8 := hide k8;clear h hS0;go_enter Tryz.func113, Tryz.ntmps113;go_upto_region 1 with fail;rw [← hwA];replace hwA := hide hwA;go_wp2_with fail;refine q1.out.mono ?_;rintro e w1 ⟨x, rfl, x0, x1, hs1⟩;obtain ⟨nb, hnb⟩ : ∃ nb : Nat, 1 + x = (nb : Int) := ⟨(1 + x).toNat, by omega⟩;have hnb1 : 1 ≤ nb ∧ nb ≤ 4 := by omega
 have q2 := hide (pick_calls b (N + 2) (7 - (nb : Int)) w1 hs1.src (by omega));replace hs1 := hide hs1;clear q1 x0 x1;go_wp2_with fail;refine q2.out.mono ?_;rintro e w2 ⟨y, rfl, y0, y1, hs2⟩;clear hnb;obtain ⟨st, hst⟩ : ∃ st : Nat, (nb : Int) + y = (st : Int) := ⟨((nb : Int) + y).toNat, by omega⟩;have hst1 : nb ≤ st ∧ st ≤ 6 := by omega
 have q3 := hide (l11DrawNames_calls b (N + 2 + 2) w2 hs2.src (by omega));have hz2 : wA.heap.size = w2.heap.size := by have := hs1.out.size; have := hs2.size; omega
 have hon2 := hide (hs1.out.only.trans' hs2.only);replace hz2 := hide hz2;clear q2 y0 y1 hs1 hs2;go_wp2_with fail;refine q3.out.mono ?_;rintro e w3 ⟨A, n, c, ts, rfl, hT, hn2, hn5, hD, hs3, hon3⟩;clear hst;have hT1 := hide (hT.below ((Below.refl w3.heap.size w3).alloc zR (.cells #[] 2)) (.inr zR));have hlT := hide hT.len;have hO0 : Hid (Own 1 iv (w3.alloc (.cells #[] 2)) w3.heap.size 2 (some ⟨w3.heap.size, 0, none⟩) 0 0 ([] : List Int)) := Own.made (α := Int) (size := 1) (f := iv) w3 2 zR;have hs4 := hide (hs3.alloc (.cells #[] 2));have hon4 := hide ((Only.refl b (b + 1) w3).alloc' (.cells #[] 2));have hon30 := hide (hon2.out.trans' hon3);have hz3 : w2.heap.size ≤ w3.heap.size := hon3.size;replace hT := hide hT;replace hD := hide hD;obtain ⟨hnb0, hnb4⟩ := hnb1;obtain ⟨hst0, hst6⟩ := hst1;have hbl3 : b < w3.heap.size := hs3.lt;have hbl2 : b < w2.heap.size := by have := hz2.out; omega
 clear q3 hon2 hs3 hon3;go_wp2_with fail
 go_loopw [6, 7] (fun o i wr => ∃ (k : Nat) (K : Option Addr) (kc : Nat) (l : List Int), k ≤ st ∧ i = .int .i64 (k : Nat) ∧ o = .slice K k kc ∧ Hid (Own 1 iv wr w3.heap.size 2 K k kc l) ∧ Hid (KindO nb l) ∧ Hid (SrcW wr b (N + 14 + 2 * k)) ∧ Hid (Only b (b + 1) w3 wr)) (fun _ i _ => st - (intOf i).toNat)
 case atStart => exact ⟨0, _, 0, [], Nat.zero_le _, rfl, rfl, hO0.out, KindO.start nb, hs4.out, hon4.out⟩
 case round =>
  clear hO0 hs4 hon4 hT1;obtain ⟨k, K, kc, l, hk, rfl, rfl, hO, hK, hS, hon⟩ := hrel;have hzr := hon.out.size;have hll : l.length = k := hO.out.len
  by_cases hlt : k < st
  ·have k1 : (k : Int) < (st : Int) := by omega
   by_cases hkb : k < nb
   ·have k2 : (k : Int) < (nb : Int) := by omega
    have hza : w3.heap.size ≤ (wr.alloc (.cells #[.int .i64 (k : Int)] 2)).heap.size := by rw [World.size_alloc]; omega
    have hOa := hide (hO.out.alloc (.cells #[.int .i64 (k : Int)] 2));have hSa := hide (hS.out.alloc (.cells #[.int .i64 (k : Int)] 2));have hona := hide (hon.out.alloc' (.cells #[.int .i64 (k : Int)] 2));have hrow := hide (fun q (e : (Value.slice K k kc).ownBlock = some q) => (hOa.out.lt q e).1);have hK2 := hide (hK.out.app (x := (k : Int)) (by omega) (fun _ => by omega));clear hO hS hon hll hzr;go_wp2_with (first | (at_builtin; (with_reducible refine wpList_app rfl (.tmp 36) (.tmp 38) rfl hEi.out flat_iv rfl hOa.out rfl (Sl.lit1' wr 2 (k : Int) _ rfl 1 _ ?d0) ?d1 hza ?_); rotate_right; intro A6 c6 w6 hown6 hgr6 hb6 hat6))
    case d0 => rfl
    case d1 => omega
    have hS6 := hide ((hSa.out.grow hgr6 (fun q e => by have := hrow.out q e; omega)).more (show N + 14 + 2 * k ≤ N + 14 + 2 * (k + 1) by omega));have hon6 := hide (hona.out.grow hgr6 (fun q e => hrow.out q e));replace hown6 := hide hown6;clear hgr6 hb6 hat6 hOa hSa hona hrow;go_wp2_with fail;go_roundw
    case rel => exact ⟨k + 1, A6, c6, _, by omega, by go_num, rfl, hown6.out, hK2.out, hS6.out, hon6.out⟩
    case measure => simp [intOf]; omega
   ·have k2 : ¬ (k : Int) < (nb : Int) := by omega
    have q := hide (pick_calls b (N + 14 + 2 * k) (nb : Int) wr hS.out (by omega));go_wp2_with fail;refine q.out.mono ?_;rintro e w5 ⟨z, rfl, z0, z1, hs5⟩;have hO5 := hide (hO.out.keep (w' := w5) fun g e => hs5.only.block g (hO.out.lt g e).2 (by have := (hO.out.lt g e).1; omega));have hon5 := hide (hon.out.trans' hs5.only);have hz5 := hs5.size;have hza : w3.heap.size ≤ (w5.alloc (.cells #[.int .i64 z] 2)).heap.size := by rw [World.size_alloc]; omega
    have hOa := hide (hO5.out.alloc (.cells #[.int .i64 z] 2));have hSa := hide (hs5.src.alloc (.cells #[.int .i64 z] 2));have hona := hide (hon5.out.alloc' (.cells #[.int .i64 z] 2));have hrow := hide (fun q (e : (Value.slice K k kc).ownBlock = some q) => (hOa.out.lt q e).1);have hK2 := hide (hK.out.app (x := z) (by omega) (fun h => by omega));clear hO hS hon hll hzr hz5 hO5 hon5 hs5 q z0 z1;go_wp2_with (first | (at_builtin; (with_reducible refine wpList_app rfl (.tmp 40) (.tmp 44) rfl hEi.out flat_iv rfl hOa.out rfl (Sl.lit1' w5 2 z _ rfl 1 _ ?d0) ?d1 hza ?_); rotate_right; intro A6 c6 w6 hown6 hgr6 hb6 hat6))
    case d0 => rfl
    case d1 => omega
    have hS6 := hide ((hSa.out.grow hgr6 (fun q e => by have := hrow.out q e; omega)).more (show N + 14 + 2 * k + 2 ≤ N + 14 + 2 * (k + 1) by omega));have hon6 := hide (hona.out.grow hgr6 (fun q e => hrow.out q e));replace hown6 := hide hown6;clear hgr6 hb6 hat6 hOa hSa hona hrow;go_wp2_with fail;go_roundw
    case rel => exact ⟨k + 1, A6, c6, _, by omega, by go_num, rfl, hown6.out, hK2.out, hS6.out, hon6.out⟩
    case measure => simp [intOf]; omega
  ·obtain rfl : k = st := by omega
   have k1 : ¬ (k : Int) < (k : Int) := by omega
   obtain ⟨wK, rfl⟩ : ∃ wK : World, wK = wr := ⟨_, rfl⟩;have hKs := hide (hO.out.sl flat_iv);have hE0 : Hid (Own 3 ev (wK.alloc (.cells #[] 84)) wK.heap.size 84 (some ⟨wK.heap.size, 0, none⟩) 0 0 ([] : List Ed)) := Own.made (α := Ed) (size := 3) (f := ev) wK 84 zR;have hSe := hide (hS.out.alloc (.cells #[] 84));have hone := hide ((Only.refl b (b + 1) wK).alloc' (.cells #[] 84));have hTK := hide (hT.out.only hon.out (.inr (by have := hzr; have := hbl; omega)));have q4 := hide (pick_calls b _ (2 + 2 * (nb : Int)) (wK.alloc (.cells #[] 84)) hSe.out (by omega));clear hS;go_wp2_with fail;refine q4.out.mono ?_;rintro e w6 ⟨r0, rfl, r00, r01, hs6⟩;obtain ⟨r, rfl⟩ : ∃ r : Nat, r0 = (r : Int) := ⟨r0.toNat, by omega⟩;have hr9 : r ≤ 9 := by omega
   have hE6 := hide (hE0.out.keep (w' := w6) fun g e => hs6.only.block g (hE0.out.lt g e).2 (by have := (hE0.out.lt g e).1; omega));have hon6 := hide (hone.out.trans' hs6.only);replace hs6 := hide (hs6.src.more (show N + 14 + 2 * k + 2 ≤ N + 40 + 30 * (9 - r) by omega));clear q4 hE0 hSe hone r00 r01;go_wp2_with fail;obtain ⟨st, rfl⟩ : ∃ st, st = k := ⟨_, rfl⟩;obtain ⟨gk, ok, rfl, -⟩ := hKs.out.at_ (by omega);have hbK : b < wK.heap.size := by omega
   clear hlt k1 hk hO hlT
   go_loopw [8, 9] (fun v8 v9 wr => ∃ (r mm cc : Nat) (E : Option Addr) (es : List Ed), v9 = .int .i64 (r : Nat) ∧ r ≤ 9 ∧ v8 = .slice E mm cc ∧ mm ≤ 6 * (9 - r) ∧ Hid (Own 3 ev wr wK.heap.size 84 E mm cc es) ∧ Hid (EdD st n es) ∧ Hid (SrcW wr b (N + 40 + 30 * (9 - r))) ∧ Hid (Only b (b + 1) wK wr)) (fun _ v _ => (intOf v).toNat)
   case atStart => exact ⟨r, 0, 0, _, [], rfl, hr9, rfl, Nat.zero_le _, hE6.out, EdD.start _ _, hs6.out, hon6.out⟩
   case round =>
    clear hE6 hs6 hon6 hr9;obtain ⟨r, mm, cc, E, es, rfl, hr, rfl, hmm, hO, hEd, hS, hon6⟩ := hrel
    by_cases hpos : 0 < r
    ·have p1 : (0 : Int) < (r : Int) := by omega
     obtain ⟨NN, hNN⟩ : ∃ NN, N + 40 + 30 * (9 - r) = NN := ⟨_, rfl⟩;rw [hNN] at hS;have hNNb : NN ≤ N + 400 := by omega
     replace hNN := hide hNN;have q5 := hide (pick_calls b NN (nb : Int) wr hS.out (by omega));go_wp2_with fail;refine q5.out.mono ?_;rintro e w7 ⟨f, rfl, f0, f1, h7⟩;have q6 := hide (pick_calls b (NN + 2) (n : Int) w7 h7.src (by omega));replace h7 := hide h7;clear q5;go_wp2_with fail;refine q6.out.mono ?_;rintro e w8 ⟨lb, rfl, l0, l1, h8⟩;have q7 := hide (pick_calls b (NN + 2 + 2) (nb : Int) w8 h8.src (by omega));replace h8 := hide (h7.out.trans h8);clear q6 h7;go_wp2_with fail;refine q7.out.mono ?_;rintro e w9 ⟨t, rfl, t0, t1, h9⟩;obtain ⟨tn, rfl⟩ : ∃ tn : Nat, t = (tn : Int) := ⟨t.toNat, by omega⟩;replace h9 := h8.out.trans h9;have hO9 := hide (hO.out.keep (w' := w9) fun g e => h9.only.block g (hO.out.lt g e).2 (by have := (hO.out.lt g e).1; omega));have hon9 := hide (hon6.out.trans' h9.only);have hS9 := hide (h9.src.more (show NN + 2 + 2 + 2 ≤ NN + 6 + 2 * 0 by omega));have hlb : 0 ≤ lb ∧ lb < (n : Int) := by omega
     have htn : tn < nb := by omega
     clear q7 h8 h9 hO hS hon6 l0 l1 t0 t1 f0 f1;go_wp2_with fail
     go_loopw [8, 13] (fun v8 v13 wz => ∃ (j mm2 cc2 : Nat) (E2 : Option Addr) (es2 : List Ed), j ≤ st ∧ v13 = .int .i64 (j : Nat) ∧ v8 = .slice E2 mm2 cc2 ∧ mm2 ≤ mm + j ∧ Hid (Own 3 ev wz wK.heap.size 84 E2 mm2 cc2 es2) ∧ Hid (EdD st n es2) ∧ Hid (SrcW wz b (NN + 6 + 2 * j)) ∧ Hid (Only b (b + 1) wK wz)) (fun _ v _ => st - (intOf v).toNat)
     case atStart => exact ⟨0, mm, cc, E, es, Nat.zero_le _, rfl, rfl, zR, hO9.out, hEd.out, hS9.out, hon9.out⟩
     case round =>
      clear hO9 hS9 hon9 hEd;obtain ⟨j, mm2, cc2, E2, es2, hj, rfl, rfl, hmm2, hO, hEd, hS, hon6⟩ := hrel
      by_cases hlt : j < st
      ·have j0 : (0 : Int) ≤ (j : Int) := by omega
       have j1 : (j : Int) < (st : Int) := by omega
       obtain ⟨gk2, ok2, y, e1, -, -, -, hy, ck, -⟩ := SlI.get (hKs.out.only hon6.out (.inr (by omega))) hlt;cases e1;have hzO := hon6.out.size
       by_cases hyf : y = f
       ·obtain rfl : f = y := hyf.symm
        have g1 : (f == f) = true := by simp
        obtain ⟨wO, rfl⟩ : ∃ wO : World, wO = wr := ⟨_, rfl⟩;have hA0 : Hid (Own 1 iv (wO.alloc (.cells #[] 2)) wO.heap.size 2 (some ⟨wO.heap.size, 0, none⟩) 0 0 ([] : List Int)) := Own.made (α := Int) (size := 1) (f := iv) wO 2 zR;have hB0 := hide ((Below.refl wO.heap.size wO).alloc zR (.cells #[] 2));clear hy;go_wp2_with fail;clear ck
        go_loopw [14, 15] (fun v14 v15 wy => ∃ (i an ac : Nat) (AA : Option Addr) (la : List Int), i ≤ st ∧ v15 = .int .i64 (i : Nat) ∧ v14 = .slice AA an ac ∧ an ≤ i ∧ Hid (tn < i → 0 < an) ∧ Hid (Own 1 iv wy wO.heap.size 2 AA an ac la) ∧ Hid (∀ x, x ∈ la → 0 ≤ x ∧ x < (st : Int)) ∧ Hid (Below wO.heap.size wO wy)) (fun _ v _ => st - (intOf v).toNat)
        case atStart => exact ⟨0, 0, 0, _, [], Nat.zero_le _, rfl, rfl, zR, (fun h => absurd h (by omega)), hA0.out, (fun x h => absurd h List.not_mem_nil), hB0.out⟩
        case round =>
         clear hA0 hB0;obtain ⟨i, an, ac, AA, la, hi, rfl, rfl, han, hne, hA, hla, hB⟩ := hrel
         by_cases hil : i < st
         ·have i0 : (0 : Int) ≤ (i : Int) := by omega
          have i1 : (i : Int) < (st : Int) := by omega
          obtain ⟨gk2, ok2, y, e1, -, -, -, hy, ck, -⟩ := SlI.get ((hKs.out.only hon6.out (.inr (by omega))).below hB.out (.inl hzO)) hil;cases e1
          by_cases hyt : y = (tn : Int)
          ·obtain rfl : (tn : Int) = y := hyt.symm
           have g2 : ((tn : Int) == (tn : Int)) = true := by simp
           have hzy := hB.out.size;have hza : wO.heap.size ≤ (wr.alloc (.cells #[.int .i64 (i : Int)] 2)).heap.size := by rw [World.size_alloc]; omega
           have hOa := hide (hA.out.alloc (.cells #[.int .i64 (i : Int)] 2));have hBa := hide (hB.out.alloc hzy (.cells #[.int .i64 (i : Int)] 2));have hrow := hide (fun q (e : (Value.slice AA an ac).ownBlock = some q) => (hOa.out.lt q e).1);have hla2 : Hid (∀ x, x ∈ la ++ [(i : Int)] → 0 ≤ x ∧ x < (st : Int)) := fun x hx => by
            rcases List.mem_append.1 hx with h | h
            ·exact hla.out x h
            ·rw [List.mem_singleton.1 h]; omega
           clear hA hB hla hy hzy;go_wp2_with (first | (at_builtin; (with_reducible refine wpList_app rfl (.tmp 89) (.tmp 91) rfl hEi.out flat_iv rfl hOa.out rfl (Sl.lit1' wr 2 (i : Int) _ rfl 1 _ ?d0) ?d1 hza ?_); rotate_right; intro A6 c6 w6 hown6 hgr6 hb6 hat6))
           case d0 => rfl
           case d1 => omega
           have hB6 := hide (hBa.out.grown hgr6 (Nat.le_trans zR hBa.out.size) (fun q e => hrow.out q e));replace hown6 := hide hown6;clear hgr6 hb6 hat6 hOa hBa hrow ck;go_wp2_with fail;go_roundw
           case rel => exact ⟨i + 1, an + 1, c6, A6, _, by omega, by go_num, rfl, by omega, (fun _ => by omega), hown6.out, hla2.out, hB6.out⟩
           case measure => simp [intOf]; omega
          ·have g2 : (y == (tn : Int)) = false := by rw [beq_eq_false_iff_ne]; exact hyt
           have hne2 : Hid (tn < i + 1 → 0 < an) := fun h => by
            by_cases e : tn < i
            ·exact hne.out e
            ·obtain rfl : tn = i := by omega
             have := hK.out.1 tn htn (List.getElem?_eq_some_iff.1 hy).1;rw [hy] at this;injection this with this;exact absurd this hyt
           clear hy;go_wp2_with fail;clear ck;go_roundw
           case rel => exact ⟨i + 1, an, ac, AA, la, by omega, by go_num, rfl, by omega, hne2.out, hA.out, hla.out, hB.out⟩
           case measure => simp [intOf]; omega
         ·obtain rfl : i = st := by omega
          have i1 : ¬ (i : Int) < (i : Int) := by omega
          have hpa : 0 < an := hne.out (by omega);have hls := hide (hA.out.sl flat_iv);have hbO : b < wO.heap.size := by omega
          have hSy := hide (hS.out.below hB.out hbO);have q8 := hide (among_calls b (NN + 6 + 2 * j) AA an ac la wr _ _ hSy.out (by omega) hls.out (.inr (by omega)) hpa (by omega));have hzy := hB.out.size;go_wp2_with fail;refine q8.out.mono ?_;rintro e w10 ⟨x, rfl, hx, hs10⟩;have hxb := hla.out x hx;have hO10 := hide (hO.out.keep (w' := w10) fun g e => (hs10.only.block g (Nat.lt_of_lt_of_le (hO.out.lt g e).2 hzy) (by have := (hO.out.lt g e).1; omega)).trans (hB.out.block g (hO.out.lt g e).2));have hon10 := hide ((hon6.out.belowAt hB.out hzO).trans' hs10.only);have hS10 := hide (hs10.src);have hz10 := hon10.out.size;have hza : wK.heap.size ≤ (w10.alloc (.cells #[.int .i64 (j : Int), .int .i64 lb, .int .i64 x] 84)).heap.size := by rw [World.size_alloc]; omega
          have hOa := hide (hO10.out.alloc (.cells #[.int .i64 (j : Int), .int .i64 lb, .int .i64 x] 84));have hSa := hide (hS10.out.alloc (.cells #[.int .i64 (j : Int), .int .i64 lb, .int .i64 x] 84));have hona := hide (hon10.out.alloc' (.cells #[.int .i64 (j : Int), .int .i64 lb, .int .i64 x] 84));have hrow := hide (fun q (e : (Value.slice E2 mm2 cc2).ownBlock = some q) => (hOa.out.lt q e).1);have hEd2 := hide (hEd.out.app (f := (j : Int)) (l := lb) (t := x) (by omega) hlb hxb);clear hO hS hon6 hA hB hla hls hSy q8 hs10 hO10 hon10 hS10 hx hxb hne hz10 hzy;go_wp2_with (first | (at_builtin; (with_reducible refine wpList_app rfl (.tmp 93) (.tmp 100) rfl hEe.out flat_ev rfl hOa.out rfl (Sl.lit1' w10 84 ((j : Int), lb, x) _ rfl 3 _ ?d0) ?d1 hza ?_); rotate_right; intro A6 c6 w6 hown6 hgr6 hb6 hat6))
          case d0 => rfl
          case d1 => omega
          have hS6 := hide ((hSa.out.grow hgr6 (fun q e => by have := hrow.out q e; omega)).more (show NN + 6 + 2 * j + 2 ≤ NN + 6 + 2 * (j + 1) by omega));have hon6 := hide (hona.out.grow hgr6 (fun q e => hrow.out q e));replace hown6 := hide hown6;clear hgr6 hb6 hat6 hOa hSa hona hrow;go_wp2_with fail;go_roundw
          case rel => exact ⟨j + 1, mm2 + 1, c6, A6, _, by omega, by go_num, rfl, by omega, hown6.out, hEd2.out, hS6.out, hon6.out⟩
          case measure => simp [intOf]; omega
       ·have g1 : (y == f) = false := by rw [beq_eq_false_iff_ne]; exact hyf
        have hS2 := hide (hS.out.more (show NN + 6 + 2 * j ≤ NN + 6 + 2 * (j + 1) by omega));clear hy;go_wp2_with fail;clear ck;go_roundw
        case rel => exact ⟨j + 1, mm2, cc2, E2, es2, by omega, by go_num, rfl, by omega, hO.out, hEd.out, hS2.out, hon6.out⟩
        case measure => simp [intOf]; omega
      ·obtain rfl : j = st := by omega
       have j1 : ¬ (j : Int) < (j : Int) := by omega
       obtain ⟨r2, rfl⟩ : ∃ r2, r = r2 + 1 := ⟨r - 1, by omega⟩;have hS2 := hide (hS.out.more (show NN + 6 + 2 * j ≤ N + 40 + 30 * (9 - r2) by have := hNN.out; omega));go_wp2_with fail;go_roundw
       case rel => exact ⟨r2, mm2, cc2, E2, es2, by go_num, by omega, rfl, by omega, hO.out, hEd.out, hS2.out, hon6.out⟩
       case measure => simp [intOf]
    ·obtain rfl : r = 0 := by omega
     have p1 : ¬ (0 : Int) < ((0 : Nat) : Int) := by omega
     have q9 := hide (one_calls b _ 3 wr hS.out (by omega));obtain ⟨wL, rfl⟩ : ∃ wL : World, wL = wr := ⟨_, rfl⟩;have hzL := hon6.out.size;go_upto_if 103 with (first | (go_at_call 92; (with_reducible refine q9.out.mono ?_); rintro e w5 ⟨yes, rfl, hs5⟩; replace hs5 := hide hs5))
     go_cut [8] (fun v8 wx => ∃ (mm2 cc2 : Nat) (E2 : Option Addr) (es2 : List Ed), v8 = .slice E2 mm2 cc2 ∧ mm2 ≤ 55 ∧ Hid (Own 3 ev wx wK.heap.size 84 E2 mm2 cc2 es2) ∧ Hid (EdD st n es2) ∧ Hid (SrcW wx b (N + 400)) ∧ Hid (Only b (b + 1) wK wx))
     case first =>
      have hO5 := hide (hO.out.keep (w' := w5) fun g e => hs5.out.only.block g (hO.out.lt g e).2 (by have := (hO.out.lt g e).1; omega));have hon5 := hide (hon6.out.trans' hs5.out.only)
      cases yes with
      | false =>
       have hS5 := hide (hs5.out.src.more (show N + 40 + 30 * (9 - 0) + 2 ≤ N + 400 by omega));go_wp2_with fail;go_meet;exact ⟨mm, cc, E, es, rfl, by omega, hO5.out, hEd.out, hS5.out, hon5.out⟩
      | true =>
       have r1 := hide (pick_calls b _ (st : Int) w5 hs5.out.src (by omega));clear hs5 q9;go_wp2_with fail;refine r1.out.mono ?_;rintro e w6 ⟨f, rfl, f0, f1, h6⟩;have r2 := hide (pick_calls b _ (n : Int) w6 h6.src (by omega));replace h6 := hide h6;clear r1;go_wp2_with fail;refine r2.out.mono ?_;rintro e w7 ⟨lb, rfl, l0, l1, h7⟩;have r3 := hide (pick_calls b _ (st : Int) w7 h7.src (by omega));replace h7 := hide (h6.out.trans h7);clear r2 h6;go_wp2_with fail;refine r3.out.mono ?_;rintro e w8 ⟨t, rfl, t0, t1, h8⟩;replace h8 := h7.out.trans h8;have hO8 := hide (hO5.out.keep (w' := w8) fun g e => h8.only.block g (hO5.out.lt g e).2 (by have := (hO5.out.lt g e).1; omega));have hon8 := hide (hon5.out.trans' h8.only);have hS8 := hide (h8.src.more (show N + 40 + 30 * (9 - 0) + 2 + 2 + 2 + 2 ≤ N + 400 by omega));have hz8 := hon8.out.size;have hza : wK.heap.size ≤ (w8.alloc (.cells #[.int .i64 f, .int .i64 lb, .int .i64 t] 84)).heap.size := by rw [World.size_alloc]; omega
       have hOa := hide (hO8.out.alloc (.cells #[.int .i64 f, .int .i64 lb, .int .i64 t] 84));have hSa := hide (hS8.out.alloc (.cells #[.int .i64 f, .int .i64 lb, .int .i64 t] 84));have hona := hide (hon8.out.alloc' (.cells #[.int .i64 f, .int .i64 lb, .int .i64 t] 84));have hrow := hide (fun q (e : (Value.slice E mm cc).ownBlock = some q) => (hOa.out.lt q e).1);have hEd2 := hide (hEd.out.app (f := f) (l := lb) (t := t) (by omega) (by omega) (by omega));clear r3 h7 h8 hO5 hon5 hO8 hon8 hS8 hz8 hO f0 f1 l0 l1 t0 t1;go_wp2_with (first | (at_builtin; (with_reducible refine wpList_app rfl (.tmp 104) (.tmp 116) rfl hEe.out flat_ev rfl hOa.out rfl (Sl.lit1' w8 84 (f, lb, t) _ rfl 3 _ ?d0) ?d1 hza ?_); rotate_right; intro A6 c6 w9 hown6 hgr6 hb6 hat6))
       case d0 => rfl
       case d1 => omega
       have hS6 := hide (hSa.out.grow hgr6 (fun q e => by have := hrow.out q e; omega));have hon9 := hide (hona.out.grow hgr6 (fun q e => hrow.out q e));replace hown6 := hide hown6;clear hgr6 hb6 hat6 hOa hSa hona hrow;go_meet;exact ⟨mm + 1, c6, A6, _, rfl, by omega, hown6.out, hEd2.out, hS6.out, hon9.out⟩
     case rest =>
      clear hO hEd hS hon6 q9;obtain ⟨mm2, cc2, E2, es2, rfl, hmm2, hO, hEd, hS, honC⟩ := hcut;have r1 := hide (pick_calls b _ (st : Int) wc hS.out (by omega));have hzC := honC.out.size;go_wp2_with fail;refine r1.out.mono ?_;rintro e w6 ⟨ini, rfl, i0, i1, h6⟩;obtain ⟨ini, rfl⟩ : ∃ k : Nat, ini = (k : Int) := ⟨ini.toNat, by omega⟩;have hini : ini < st := by omega
      have hon6 := hide (honC.out.trans' h6.only);have hz6 := h6.size;have hO6 := hO.out.keep (w' := w6) fun g e => h6.only.block g (hO.out.lt g e).2 (by have := (hO.out.lt g e).1; omega)
      have hmm := hO6.len;have r2 := hide (l11Make_calls (st : Int) (ini : Int) A n c ts E2 mm2 cc2 es2 w6 ((hTK.out.only hon6.out (.inr (by omega))).more (Nat.zero_le _) (by omega)) ((hO6.sl flat_ev).more (Nat.zero_le _) zR) (fun e he => (hEd.out e he).2.1) (by omega) (by omega));replace h6 := hide h6;clear r1 hO hS hO6 i0 i1;go_wp2_with fail;refine r2.out.mono ?_;rintro e w7 ⟨A2, n2, c2, B2, m2, d2, es3, rfl, hA2, hB2, hM, hb7⟩;have hF := hide (((hon30.out.trans' hon.out).trans' hon6.out).belowAt hb7 (by have := hz2.out; omega));have h8 : w7.heap[w.heap.size]? = _ := (hF.out.block w.heap.size hz0 (by omega)).trans k8.out;have a0 : w7.cell? ⟨w.heap.size, 0, none⟩ = some (.int .i64 0) := cR 0 h8;have a1 : w7.cell? ⟨w.heap.size, 1, none⟩ = some (.int .i64 0) := cR 1 h8;have a2 : w7.cell? ⟨w.heap.size, 2, none⟩ = some (.slice none 0 0) := cR 2 h8;have a3 : w7.cell? ⟨w.heap.size, 3, none⟩ = some (.slice none 0 0) := cR 3 h8;have z0 : w7.frozen? ⟨w.heap.size, 0, none⟩ = false := frozen_of_row _ _ 0 _ _ h8;have z1 : w7.frozen? ⟨w.heap.size, 1, none⟩ = false := frozen_of_row _ _ 1 _ _ h8;have z2 : w7.frozen? ⟨w.heap.size, 2, none⟩ = false := frozen_of_row _ _ 2 _ _ h8;have z3 : w7.frozen? ⟨w.heap.size, 3, none⟩ = false := frozen_of_row _ _ 3 _ _ h8;have hS7 := hide (h6.out.src.below hb7 (by omega));have hz7 := hb7.size;have hlA := hA2.len;have hlj := joi_len ts;have hlT : ts.length = n := hTK.out.len;replace hA2 := hide hA2;replace hB2 := hide hB2;replace hM := hide hM;replace h8 := hide h8;clear r2 hb7;go_wp2_with fail
      (try simp only [Exit.inBlock, Exit.then])
      refine bodyPost_ret_by (v := .agg #[.int .i64 (st : Int), .int .i64 (ini : Int), .slice A2 n2 c2, .slice B2 m2 d2]) ?_ rfl ?_
      focus
       rw [results_cell1 rfl];go_simp
      change DrawnG 6 60 1000 b N w _ (put4 w7 w.heap.size _ _ _ _)
      have hw2 : w.heap.size < w2.heap.size := by have := hz2.out; omega
      have hZs := put4_size w7 w.heap.size (.int .i64 (st : Int)) (.int .i64 (ini : Int)) (.slice A2 n2 c2) (.slice B2 m2 d2);have hmade : ltsV ((st : Int), (ini : Int), joiF ts, es3) = true := made_valid (by omega) (by omega) (fun x hx => (hD.out x hx).imp id fun h => (nm5_lab x h).1) (by omega) (by omega) (fun e he => ⟨(hEd.out e he).1, (hEd.out e he).2.2⟩) hM.out;refine ⟨st, ini, A2, n2, c2, B2, m2, d2, ts, es3, rfl, ?_, ?_, hmade, by omega, by have := hM.out.2.1; omega, by omega, hD.out, ?_, ?_⟩
      ·exact (Sl.keep hA2.out (by omega) fun q h1 h2 h3 => put4_other _ _ _ _ _ _ (by omega)).more (by omega) (by omega)
      ·exact (Sl.keep hB2.out (by omega) fun q h1 h2 h3 => put4_other _ _ _ _ _ _ (by omega)).more (by omega) (by omega)
      ·exact (hS7.out.keep (by omega) fun q hq => put4_other _ _ _ _ _ _ (by omega)).more (by omega)
      ·exact put4_only (hon0.out.trans' hF.out) zR _ _ _ _
end Go.Proofs.YtnhomkmfbngmgaaGreatDoor
namespace Go.Proofs.YtnhomkmfbngmgaaGreatDoor
open Go
section
variable {P : Program} {ops : Array Oper} {Q : Exit → Act → World → Prop} {md : Region.Mode} {S : World → Prop} {st : Nat}
def lateT (P : Program) (md : Region.Mode) (ops : Array Oper) (Q : Exit → Act → World → Prop) (S : World → Prop) (st : Nat) : Nat → Array Bool → Act → World → Prop
 | 0, got, a, w => Region.ready md ops got = [] ∧ Q .normal a w
 | m + 1, got, a, w => (Region.ready md ops got = [] → Q .normal a w) ∧
  ∀ i ∈ Region.ready md ops got, wpOp P ops Q i (fun a' w' => (i ≠ st → S w') ∧ lateT P md ops Q S st m (got.setIfInBounds i true) a' w') a w
theorem lateT.any : ∀ (m : Nat) (got : Array Bool) (a : Act) (w : World), lateT P md ops Q S st m got a w → wpAny P md ops Q m got a w
 | 0, _, _, _, h => h
 | m + 1, got, _, _, h => ⟨h.1, fun i hi => wpOp_mono (fun a' w' k => lateT.any m _ a' w' k.2) (h.2 i hi)⟩
def chainW (md : Region.Mode) (ops : Array Oper) : Nat → List Nat → Bool
 | _, [] => true
 | i, d :: ds => Region.waitsFor md ops d i && chainW md ops d ds
def openW (got : Array Bool) (ds : List Nat) : Bool := ds.all fun d => !got.getD d true
theorem openW_mem {got : Array Bool} {ds : List Nat} (h : openW got ds = true) {d : Nat} (hd : d ∈ ds) : got.getD d true = false := by
 unfold openW at h;have := List.all_eq_true.1 h d hd
 simpa using this
theorem chainW_shut {got : Array Bool} : ∀ (ds : List Nat) (i : Nat), chainW md ops i ds = true → got.getD i true = false → openW got ds = true → ∀ d ∈ ds, d ∉ Region.ready md ops got
 | [], _, _, _, _, d, hd => by cases hd
 | e :: ds, i, h, hi, ho, d, hd => by
  unfold chainW at h;rw [Bool.and_eq_true] at h;have he : got.getD e true = false := openW_mem ho (by simp)
  rcases List.mem_cons.1 hd with rfl | hd
  ·intro hr
   obtain ⟨oj, h1, x, hx, hb, hon⟩ := Region.waitsFor_spec h.1;obtain ⟨-, o, h2, h3⟩ := mem_ready.1 hr;rw [h1] at h2;obtain rfl := Option.some.inj h2;have := h3 x hx hb;rw [hon, getD_both hi] at this
   cases this
  ·exact chainW_shut ds e h.2 he (by unfold openW at ho ⊢; rw [List.all_cons, Bool.and_eq_true] at ho; exact ho.2) d hd
theorem lateT_first {i : Nat} {oi : Oper} {v : Value} {ds : List Nat} (hi : ops[i]? = some oi) (hsel : Region.noSelect ops = true) (hc : chainW md ops i ds = true) (hst : st ∈ ds)
  (hQ : ∀ c a w, Q (.panic c) (a.put oi.dst v) w → Q (.panic c) a w) : ∀ (m : Nat) (got : Array Bool) (a : Act) (w : World),
   (∀ j oj, ops[j]? = some oj → j ≠ i → got.getD j true = false → (∀ e ∈ oj.after, Region.binds md e = true → e.on ≠ i) → oi.apart ops oj = true) →
   i ∈ Region.ready md ops got → openW got ds = true → YieldsIf P ops S oi v a → S w →
   lateT P md ops Q S st m (got.setIfInBounds i true) (a.put oi.dst v) w → lateT P md ops Q S st (m + 1) got a w
 | 0, got, a, w, _, hr, _, hy, hS, H => by
  refine ⟨fun h => (by rw [h] at hr; cases hr), fun j hj => ?_⟩
  by_cases hji : j = i
  ·subst hji; exact hy.wpOp hi hS ⟨fun _ => hS, H⟩
  ·have := ready_mono hj hji
   rw [H.1] at this
   cases this
 | m + 1, got, a, w, hfree, hr, ho, hy, hS, H => by
  refine ⟨fun h => (by rw [h] at hr; cases hr), fun j hj => ?_⟩
  by_cases hji : j = i
  ·subst hji; exact hy.wpOp hi hS ⟨fun _ => hS, H⟩
  ·have h1 := H.2 j (ready_mono hj hji)
   obtain ⟨hjun, oj, hoj, hall⟩ := mem_ready.1 hj;have hi0 := (mem_ready.1 hr).1;have hjd : j ∉ ds := fun hm => chainW_shut ds i hc hi0 ho j hm hj
   have hjst : j ≠ st := fun e => hjd (e ▸ hst)
   have hnot : ∀ e ∈ oj.after, Region.binds md e = true → e.on ≠ i := fun e he hb heq => by
    have h2 := hall e he hb;rw [heq, getD_both hi0] at h2
    cases h2
   have h2 := wpOp_putIf hoj (hfree j oj hoj hji hjun hnot) (fun cs b => Region.noSelect_spec hsel i oi cs b hi) (fun cs b => Region.noSelect_spec hsel j oj cs b hoj) hQ hy h1;refine wpOp_mono (fun a' w' h3 => ⟨h3.2.1, lateT_first hi hsel hc hst hQ m (got.setIfInBounds j true) a' w' (fun k ok hk hki hun hno => ?_) (ready_mono hr (Ne.symm hji)) ?_ h3.1 (h3.2.1 hjst) ?_⟩) h2
   ·refine hfree k ok hk hki ?_ hno
    by_cases hjk : j = k
    ·subst hjk; exact hjun
    ·rw [getD_set_ne true hjk] at hun; exact hun
   ·unfold openW
    rw [List.all_eq_true];intro d hd;rw [getD_set_ne true (fun e : j = d => hjd (by rw [e]; exact hd)), openW_mem ho hd]
    rfl
   ·rw [Array.setIfInBounds_comm _ _ hji]
    exact h3.2.2
theorem lateT_take {i : Nat} {oi : Oper} {v : Value} {m : Nat} {got : Array Bool} {a : Act} {w : World} (ds : List Nat) (hi : ops[i]? = some oi) (hsel : Region.noSelect ops = true) (hf : Region.free md ops got i = true)
  (hr : (Region.ready md ops got).contains i = true) (hc : (chainW md ops i ds && openW got ds && ds.contains st) = true) (hQ : ∀ c a w, Q (.panic c) (a.put oi.dst v) w → Q (.panic c) a w) (hy : YieldsIf P ops S oi v a) (hS : S w)
  (h : lateT P md ops Q S st m (got.setIfInBounds i true) (a.put oi.dst v) w) : lateT P md ops Q S st (m + 1) got a w := by
 rw [Bool.and_eq_true, Bool.and_eq_true] at hc;exact lateT_first hi hsel hc.1.1 (by simpa using hc.2) hQ m got a w (Region.free_spec hi hf) (by simpa using hr) hc.1.2 hy hS h
theorem lateT_step {i : Nat} {o : Oper} {m : Nat} {got : Array Bool} {a : Act} {w : World} (hr : Region.ready md ops got = [i]) (ho : ops[i]? = some o)
  (h : ∀ K : Act → World → Prop, Shut (∀ a w, (i ≠ st → S w) → lateT P md ops Q S st m (got.setIfInBounds i true) a w → K a w) → if Region.wanted o (yielded ops a.tmps) = true then Oper.wp P o a w K Q else K (a.put o.dst undef) w) : lateT P md ops Q S st (m + 1) got a w := by
 refine ⟨fun h0 => (by rw [hr] at h0; cases h0), fun j hj => ?_⟩;rw [hr] at hj;obtain rfl := List.mem_singleton.1 hj;exact wpOp_step ho fun K hK => h K fun a w hS hl => hK a w ⟨hS, hl⟩
theorem sB {α : Type _} {x : α} {xs : List α} {a : α} : (x :: xs).set 0 a = a :: xs := rfl
theorem sC {α : Type _} {x : α} {xs : List α} {i : Nat} {a : α} : (x :: xs).set (i + 1) a = x :: xs.set i a := rfl
theorem sA {α : Type _} {l : List α} {i : Nat} {a : α} : l.toArray.setIfInBounds i a = (l.set i a).toArray := by rw [List.setIfInBounds_toArray]
theorem tkA (v : Value) (i : Nat) {oi : Oper} {m : Nat} {got : Array Bool} {a a' : Act} {w : World} (ds : List Nat) (hi : ops[i]? = some oi) (hy : YieldsIf P ops S oi v a) (hS : S w)
  (h : lateT P md ops Q S st m (got.setIfInBounds i true) a' w) (ha : a.put oi.dst v = a' := by first | (simp only [Act.put, sA, sB, sC]; rfl) | simp only [Act.put, sA, sB, sC] | rfl) (hsel : Region.noSelect ops = true := by kernel_rfl) (hf : Region.free md ops got i = true := by kernel_rfl)
  (hr : (Region.ready md ops got).contains i = true := by kernel_rfl) (hc : (chainW md ops i ds && openW got ds && ds.contains st) = true := by kernel_rfl) (hQ : ∀ c a w, Q (.panic c) (a.put oi.dst v) w → Q (.panic c) a w := by exact fun _ _ _ h => h) : lateT P md ops Q S st (m + 1) got a w := lateT_take ds hi hsel hf hr hc hQ hy hS (ha ▸ h)
theorem tkB (i : Nat) {v : Value} {oi : Oper} {m : Nat} {got : Array Bool} {a a' : Act} {w : World} (ds : List Nat) (hS : S w) (h : lateT P md ops Q S st m (got.setIfInBounds i true) a' w) (hi : ops[i]? = some oi := by rfl)
  (hy : YieldsIf P ops S oi v a := by (refine Or.inl ⟨by rfl, ?_⟩; intro w hSw; (try dsimp only at hSw); go_simp <;> with_reducible rfl)) (ha : a.put oi.dst v = a' := by first | (simp only [Act.put, sA, sB, sC]; rfl) | simp only [Act.put, sA, sB, sC] | rfl) (hsel : Region.noSelect ops = true := by kernel_rfl) (hf : Region.free md ops got i = true := by kernel_rfl)
  (hr : (Region.ready md ops got).contains i = true := by kernel_rfl) (hc : (chainW md ops i ds && openW got ds && ds.contains st) = true := by kernel_rfl) (hQ : ∀ c a w, Q (.panic c) (a.put oi.dst v) w → Q (.panic c) a w := by exact fun _ _ _ h => h) : lateT P md ops Q S st (m + 1) got a w := lateT_take ds hi hsel hf hr hc hQ hy hS (ha ▸ h)
theorem tkD (i : Nat) {v : Value} {oi : Oper} {m : Nat} {got : Array Bool} {a a' : Act} {w : World} (ds : List Nat) (hS : S w) (h : lateT P md ops Q S st m (got.setIfInBounds i true) a' w) (hi : ops[i]? = some oi := by rfl)
  (hy : YieldsIf P ops S oi v a := by (refine Or.inl ⟨by kernel_rfl, ?_⟩; intro w hSw; (try dsimp only at hSw); go_simp <;> with_reducible rfl)) (ha : a.put oi.dst v = a' := by first | (simp only [Act.put, sA, sB, sC]; rfl) | simp only [Act.put, sA, sB, sC] | rfl) (hsel : Region.noSelect ops = true := by kernel_rfl) (hf : Region.free md ops got i = true := by kernel_rfl)
  (hr : (Region.ready md ops got).contains i = true := by kernel_rfl) (hc : (chainW md ops i ds && openW got ds && ds.contains st) = true := by kernel_rfl) (hQ : ∀ c a w, Q (.panic c) (a.put oi.dst v) w → Q (.panic c) a w := by exact fun _ _ _ h => h) : lateT P md ops Q S st (m + 1) got a w := lateT_take ds hi hsel hf hr hc hQ hy hS (ha ▸ h)
theorem lS (i : Nat) {o : Oper} {m : Nat} {got : Array Bool} {a : Act} {w : World}
  (h : ∀ K : Act → World → Prop, Shut (∀ a w, (i ≠ st → S w) → lateT P md ops Q S st m (got.setIfInBounds i true) a w → K a w) → if Region.wanted o (yielded ops a.tmps) = true then Oper.wp P o a w K Q else K (a.put o.dst undef) w) (hr : Region.ready md ops got = [i] := by kernel_rfl) (ho : ops[i]? = some o := by rfl) : lateT P md ops Q S st (m + 1) got a w := lateT_step hr ho h
theorem tkC (i : Nat) {oi : Oper} {m : Nat} {got : Array Bool} {a a' : Act} {w : World} (ds : List Nat) (hS : S w) (h : lateT P md ops Q S st m (got.setIfInBounds i true) a' w) (hi : ops[i]? = some oi := by rfl)
  (hy : YieldsIf P ops S oi undef a := by exact Or.inr ⟨by kernel_rfl, rfl⟩) (ha : a.put oi.dst undef = a' := by first | (simp only [Act.put, sA, sB, sC]; rfl) | simp only [Act.put, sA, sB, sC] | rfl) (hsel : Region.noSelect ops = true := by kernel_rfl) (hf : Region.free md ops got i = true := by kernel_rfl)
  (hr : (Region.ready md ops got).contains i = true := by kernel_rfl) (hc : (chainW md ops i ds && openW got ds && ds.contains st) = true := by kernel_rfl) (hQ : ∀ c a w, Q (.panic c) (a.put oi.dst undef) w → Q (.panic c) a w := by exact fun _ _ _ h => h) : lateT P md ops Q S st (m + 1) got a w := lateT_take ds hi hsel hf hr hc hQ hy hS (ha ▸ h)
theorem kP {i m : Nat} {g : Array Bool} {K : Act → World → Prop} (hK : Shut (∀ a w, (i ≠ st → S w) → lateT P md ops Q S st m g a w → K a w)) {a a' : Act} {w : World} (hS : i ≠ st → S w) (h : lateT P md ops Q S st m g a' w) (ha : a = a' := by first | (simp only [Act.put, sA, sB, sC]; rfl) | simp only [Act.put, sA, sB, sC] | rfl) : K a w := hK.out _ _ hS (ha ▸ h)
theorem lateT_two {i j : Nat} {o o' : Oper} {m : Nat} {got : Array Bool} {a : Act} {w : World} (hr : Region.ready md ops got = [i, j]) (ho : ops[i]? = some o) (ho' : ops[j]? = some o')
  (h : ∀ K : Act → World → Prop, Shut (∀ a w, (i ≠ st → S w) → lateT P md ops Q S st m (got.setIfInBounds i true) a w → K a w) → if Region.wanted o (yielded ops a.tmps) = true then Oper.wp P o a w K Q else K (a.put o.dst undef) w)
  (h' : ∀ K : Act → World → Prop, Shut (∀ a w, (j ≠ st → S w) → lateT P md ops Q S st m (got.setIfInBounds j true) a w → K a w) → if Region.wanted o' (yielded ops a.tmps) = true then Oper.wp P o' a w K Q else K (a.put o'.dst undef) w) : lateT P md ops Q S st (m + 1) got a w := by
 refine ⟨fun h0 => (by rw [hr] at h0; cases h0), fun k hk => ?_⟩;rw [hr] at hk
 rcases List.mem_cons.1 hk with rfl | hk
 ·exact wpOp_step ho fun K hK => h K fun a w hS hl => hK a w ⟨hS, hl⟩
 ·obtain rfl := List.mem_singleton.1 hk
  exact wpOp_step ho' fun K hK => h' K fun a w hS hl => hK a w ⟨hS, hl⟩
theorem lateT_done {got : Array Bool} {a : Act} {w : World} (hr : Region.ready md ops got = []) (h : Q .normal a w) : ∀ m, lateT P md ops Q S st m got a w
 | 0 => ⟨hr, h⟩
 | _ + 1 => ⟨fun _ => h, by rw [hr]; simp⟩
theorem lateT_begin {id : Nat} {a : Act} {w : World} (hm : P.follows .mixedOrders = true) (h : lateT P .any ops Q S st ops.size (Array.replicate ops.size false) a w.drew) : (Code.region id ops true).wp P Q a w :=
 wp_region_any hm (lateT.any _ _ _ _ h)
end
end Go.Proofs.YtnhomkmfbngmgaaGreatDoor
namespace Go.Proofs.YtnhomkmfbngmgaaGreatDoor
open Go.ChangeShapes Go.WideShapes Go.ChangeAt Go.RowKit
def LtsBox (w : World) (g : Nat) (st ini : Int) (A : Option Addr) (n c : Nat) (B : Option Addr) (m d : Nat) : Prop := w.heap[g]? = some (.cells #[.int .i64 st, .int .i64 ini, .slice A n c, .slice B m d] 27 (0, 0))
section
variable {w : World} {g : Nat} {st ini : Int} {A : Option Addr} {n c : Nat} {B : Option Addr} {m d : Nat} (h : LtsBox w g st ini A n c B m d)
include h
theorem LtsBox.c0 : w.cell? ⟨g, 0, none⟩ = some (.int .i64 st) := cR 0 h
theorem LtsBox.c1 : w.cell? ⟨g, 1, none⟩ = some (.int .i64 ini) := cR 1 h
theorem LtsBox.c2 : w.cell? ⟨g, 2, none⟩ = some (.slice A n c) := cR 2 h
theorem LtsBox.c3 : w.cell? ⟨g, 3, none⟩ = some (.slice B m d) := cR 3 h
theorem LtsBox.f0 : w.frozen? ⟨g, 0, none⟩ = false := frozen_of_row _ _ 0 _ _ h
theorem LtsBox.f1 : w.frozen? ⟨g, 1, none⟩ = false := frozen_of_row _ _ 1 _ _ h
theorem LtsBox.f2 : w.frozen? ⟨g, 2, none⟩ = false := frozen_of_row _ _ 2 _ _ h
theorem LtsBox.f3 : w.frozen? ⟨g, 3, none⟩ = false := frozen_of_row _ _ 3 _ _ h
theorem LtsBox.lt : g < w.heap.size := (Array.getElem?_eq_some_iff.1 h).1
theorem LtsBox.only {lo hi : Nat} {w' : World} (g2 : Only lo hi w w') (hd : g < lo ∨ hi ≤ g) : LtsBox w' g st ini A n c B m d := (g2.block g h.lt hd).trans h
theorem LtsBox.below {K : Nat} {w' : World} (g2 : Below K w w') (hd : g < K) : LtsBox w' g st ini A n c B m d := (g2.block g hd).trans h
end
theorem ltsV_edge {st ini : Int} {ls : List ByteArray} {es : List Ed} (h : ltsV (st, ini, ls, es) = true) : (∀ e, e ∈ es → (0 ≤ e.1 ∧ e.1 < st) ∧ (0 ≤ e.2.1 ∧ e.2.1 < (ls.length : Int)) ∧ 0 ≤ e.2.2 ∧ e.2.2 < st) ∧ (1 ≤ st ∧ st ≤ 40) ∧ (0 ≤ ini ∧ ini < st) := by
 rw [ltsV_eq] at h;simp only [Bool.and_eq_true, decide_eq_true_eq] at h;obtain ⟨⟨h1, h2, h3, h4⟩, h5⟩ := h;have h1 := inB_true.1 h1;have h2 := inB_true.1 h2;refine ⟨fun e he => ?_, by omega, by omega⟩;obtain ⟨k, hk⟩ := List.getElem?_of_mem he;have hkl := (List.getElem?_eq_some_iff.1 hk).1;obtain ⟨f, lb, t⟩ := e;have hok := allK_get h5 hkl;have key : ∀ {b : Bool}, ((inB f 0 (st - 1) && (inB t 0 (st - 1) && inB lb 0 ((ls.length : Int) - 1))) && b) = true → (0 ≤ f ∧ f < st) ∧ (0 ≤ lb ∧ lb < (ls.length : Int)) ∧ 0 ≤ t ∧ t < st := fun h => by
  simp only [Bool.and_eq_true] at h;obtain ⟨⟨g1, g2, g3⟩, _⟩ := h;have g1 := inB_true.1 g1;have g2 := inB_true.1 g2;have g3 := inB_true.1 g3;omega
 by_cases k0 : k = 0
 ·subst k0
  rw [okE_zero hk] at hok;exact key (b := true) (by rw [Bool.and_true]; exact hok)
 ·obtain ⟨r, hr⟩ : ∃ r, es[k - 1]? = some r := ⟨_, List.getElem?_eq_getElem (by omega)⟩
  rw [okE_at hk (by omega) hr] at hok;exact key hok
theorem l15DrawOk_calls (b N : Nat) (w : World) (h : SrcW w b N) (hN : N ≤ 600000000) :
  Calls Tryz.prog 49 #[.pointer (some ⟨b, 0, none⟩)] w (DrawnG 7 64 2000 b N w) := by
 have hEe := hide elem_edge;have hbl := h.lt;have hon0 := (Only.refl b (b + 1) w).alloc' (.cells #[.int .i64 0, .int .i64 0, .slice none 0 0, .slice none 0 0] 27);have k8 := heap_alloc_new w (.cells #[.int .i64 0, .int .i64 0, .slice none 0 0, .slice none 0 0] 27);have hS0 := h.alloc (.cells #[.int .i64 0, .int .i64 0, .slice none 0 0, .slice none 0 0] 27);have hz0 : w.heap.size < (w.alloc (.cells #[.int .i64 0, .int .i64 0, .slice none 0 0, .slice none 0 0] 27)).heap.size := by simp
 obtain ⟨wA, hwA⟩ : ∃ wA, wA = w.alloc (.cells #[.int .i64 0, .int .i64 0, .slice none 0 0, .slice none 0 0] 27) := ⟨_, rfl⟩;rw [← hwA] at hon0 k8 hS0 hz0;have q1 := hide (l11DrawOk_calls b N wA hS0 (by omega));replace hon0 := hide hon0;replace k8 := hide k8;clear h hS0;go_enter Tryz.func49, Tryz.ntmps49;go_upto_region 1 with fail;rw [← hwA];replace hwA := hide hwA;go_wp2_with fail;refine q1.out.mono ?_;rintro e w1 ⟨st, ini, A, n, c, B, m, d, ts, es, rfl, hA1, hB1, hv, hst7, hm60, hn6, hD, hs1, hon1⟩;obtain ⟨hed, hst40, hini⟩ := ltsV_edge hv;have hlA := hA1.len;have hlB := hB1.len;rw [hlA] at hed;have hnpos : 0 < n := by have := (List.getElem?_eq_some_iff.1 (joi_head ts)).1; omega
 replace hed := hide hed;have hbl1 : b < w1.heap.size := hs1.lt;have hbw1 := (Below.refl w1.heap.size w1).alloc zR (.cells #[.int .i64 (st : Int), .int .i64 (ini : Int), .slice A n c, .slice B m d] 27);have hbox := heap_alloc_new w1 (.cells #[.int .i64 (st : Int), .int .i64 (ini : Int), .slice A n c, .slice B m d] 27);have hz2 : w1.heap.size + 1 = (w1.alloc (.cells #[.int .i64 (st : Int), .int .i64 (ini : Int), .slice A n c, .slice B m d] 27)).heap.size := by simp
 obtain ⟨w2, hw2⟩ : ∃ w2, w2 = w1.alloc (.cells #[.int .i64 (st : Int), .int .i64 (ini : Int), .slice A n c, .slice B m d] 27) := ⟨_, rfl⟩;rw [← hw2] at hbw1 hbox hz2;have hz12 : w1.heap.size < w2.heap.size := by omega
 have hbox2 : Hid (LtsBox w2 w1.heap.size (st : Int) (ini : Int) A n c B m d) := hbox;have hA2 := hide (hA1.below hbw1 (.inl zR));have hB2 := hide (hB1.below hbw1 (.inl zR));have hs2 := hs1.below hbw1 hbl1;have hon2 := hide (hon1.belowAt hbw1 hon1.size);have hE0 : Hid (Own 3 ev (w2.alloc (.cells #[] 84)) w2.heap.size 84 (some ⟨w2.heap.size, 0, none⟩) 0 0 ([] : List Ed)) := Own.made (α := Ed) (size := 3) (f := ev) w2 84 zR;have hs3 := hide (hs2.alloc (.cells #[] 84));have hon3 := hide ((Only.refl b (b + 1) w2).alloc' (.cells #[] 84));have hbl2 : b < w2.heap.size := by omega
 have hz1 : wA.heap.size ≤ w1.heap.size := hon1.size;replace hz2 := hide hz2;replace hv := hide hv;replace hD := hide hD;obtain ⟨hst1, -⟩ := hst40;obtain ⟨hini0, hini1⟩ := hini;clear q1 hA1 hB1 hs1 hs2 hon1 hbox hbw1;go_upto_region 2 with fail;rw [← hw2];replace hw2 := hide hw2;go_wp2_with fail
 go_loopw [4, 5] (fun v4 v5 wr => ∃ (k cc : Nat) (E : Option Addr) (es1 : List Ed), k ≤ m ∧ v5 = .int .i64 (k : Nat) ∧ v4 = .slice E k cc ∧ Hid (Own 3 ev wr w2.heap.size 84 E k cc es1) ∧ Hid (EdD st n es1) ∧ Hid (SrcW wr b (N + 1000 + 2 * k)) ∧ Hid (Only b (b + 1) w2 wr)) (fun _ v _ => m - (intOf v).toNat)
 case atStart => exact ⟨0, 0, _, [], Nat.zero_le _, rfl, rfl, hE0.out, EdD.start _ _, hs3.out, hon3.out⟩
 case round =>
  clear hE0 hs3 hon3;obtain ⟨k, cc, E, es1, hk, rfl, rfl, hO, hEd, hS, hon⟩ := hrel;have hbox := hide (hbox2.out.only hon.out (.inr (by omega)));have hzr := hon.out.size
  by_cases hlt : k < m
  ·have k0 : (0 : Int) ≤ (k : Int) := by omega
   have k1 : (k : Int) < (m : Int) := by omega
   obtain ⟨gb, ob, f, lb, t, rfl, -, -, hgb, hx, x0, x1, x2, -⟩ := SlE.get (hB2.out.only hon.out (.inr (by omega))) hlt;have hin := hed.out _ (List.mem_of_getElem? hx)
   (try dsimp only at hin)
   have b3 := hbox.out.c3;have hbx := heap_alloc_new wr (.cells #[.int .i64 f, .int .i64 lb, .int .i64 t] 84);have hOE := hO.out.alloc (.cells #[.int .i64 f, .int .i64 lb, .int .i64 t] 84);have hSE := hS.out.alloc (.cells #[.int .i64 f, .int .i64 lb, .int .i64 t] 84);have honE := (Only.refl b (b + 1) wr).alloc' (.cells #[.int .i64 f, .int .i64 lb, .int .i64 t] 84);obtain ⟨wE, hwE⟩ : ∃ wE, wE = wr.alloc (.cells #[.int .i64 f, .int .i64 lb, .int .i64 t] 84) := ⟨_, rfl⟩;rw [← hwE] at hbx hOE hSE honE;obtain ⟨be, hbe⟩ : ∃ be, be = wr.heap.size := ⟨_, rfl⟩;rw [← hbe] at hbx;obtain ⟨wO, hwO⟩ : ∃ wO : World, wO = wr := ⟨_, rfl⟩;have hbel : be < wE.heap.size := (Array.getElem?_eq_some_iff.1 hbx).1;have q2 := hide (one_calls b _ 3 wE hSE (by omega));replace hbx := hide hbx;replace hOE := hide hOE;replace honE := hide honE;clear hx hSE;go_upto_region 7 with fail;rw [← hwE, ← hbe];replace hwE := hide hwE;have hbe2 : w2.heap.size ≤ be := by rw [hbe]; exact hzr
   have hber : wr.heap.size ≤ be := Nat.le_of_eq hbe.symm;replace hbe := hide hbe;clear x0 x1 x2 b3 hwO;go_upto_if 24 with (first | (go_at_call 92; (with_reducible refine q2.out.mono ?_); rintro e w5 ⟨yes, rfl, hs5⟩; replace hs5 := hide hs5))
   go_cut [] (fun wx => ∃ lb2 : Int, Hid (0 ≤ lb2 ∧ lb2 < (n : Int)) ∧ Hid (wx.heap[be]? = some (.cells #[.int .i64 f, .int .i64 lb2, .int .i64 t] 84 (0, 0))) ∧ Hid (Own 3 ev wx w2.heap.size 84 E k cc es1) ∧ Hid (SrcW wx b (N + 1000 + 2 * k + 2)) ∧ Hid (Only b (b + 1) wr wx))
   case first =>
    have hb5 : w5.heap[be]? = _ := (hs5.out.only.block be hbel (by omega)).trans hbx.out;have hO5 := hide (hOE.out.keep (w' := w5) fun g e => hs5.out.only.block g (hOE.out.lt g e).2 (by have := (hOE.out.lt g e).1; omega));have hon5 := hide (honE.out.trans' hs5.out.only)
    cases yes with
    | false =>
     go_wp2_with fail;go_meet
     exact ⟨lb, hin.2.1, hb5, hO5.out, hs5.out.src, hon5.out⟩
    | true =>
     have y1 : w5.cell? ⟨be, 1, none⟩ = some (.int .i64 lb) := cR 1 hb5;have z1 : w5.frozen? ⟨be, 1, none⟩ = false := frozen_of_row _ _ 1 _ _ hb5;have hb6 : Hid ((w5.setCell ⟨be, 1, none⟩ (.int .i64 0)).heap[be]? = some (.cells #[.int .i64 f, .int .i64 0, .int .i64 t] 84 (0, 0))) := heap_setCell_same w5 be 1 _ _ (.int .i64 0) hb5;have hO6 := hide (hO5.out.keep (w' := w5.setCell ⟨be, 1, none⟩ (.int .i64 0)) fun g e => Below.heap_setCell _ _ _ _ (by
      have := (hO.out.lt g e).2
      show g ≠ be
      omega))
     have hS6 := hide (hs5.out.src.setNew (p := ⟨be, 1, none⟩) (by show b < be; omega) (.int .i64 0));have hon6 := hide (hon5.out.setNew (p := ⟨be, 1, none⟩) hber (.int .i64 0));replace hb5 := hide hb5;go_wp2_with fail;go_meet;exact ⟨0, by show _ ∧ _; omega, hb6.out, hO6.out, hS6.out, hon6.out⟩
   case rest =>
    clear hOE honE q2 hO hS hbx;obtain ⟨lb2, hlb2, hbx, hO, hS, honC⟩ := hcut;have hon6 := hide (hon.out.trans' honC.out);have y0 : wc.cell? ⟨be, 0, none⟩ = some (.int .i64 f) := cR 0 hbx.out;have y1 : wc.cell? ⟨be, 1, none⟩ = some (.int .i64 lb2) := cR 1 hbx.out;have y2 : wc.cell? ⟨be, 2, none⟩ = some (.int .i64 t) := cR 2 hbx.out;have hz6 := hon6.out.size;have hza : w2.heap.size ≤ (wc.alloc (.cells #[.int .i64 f, .int .i64 lb2, .int .i64 t] 84)).heap.size := by rw [World.size_alloc]; omega
    have hOa := hide (hO.out.alloc (.cells #[.int .i64 f, .int .i64 lb2, .int .i64 t] 84));have hSa := hide (hS.out.alloc (.cells #[.int .i64 f, .int .i64 lb2, .int .i64 t] 84));have hona := hide (hon6.out.alloc' (.cells #[.int .i64 f, .int .i64 lb2, .int .i64 t] 84));have hrow := hide (fun q (e : (Value.slice E k cc).ownBlock = some q) => (hOa.out.lt q e).1);have hEd2 := hide (hEd.out.app (f := f) (l := lb2) (t := t) hin.1 hlb2.out hin.2.2);clear hO hS hon honC hon6 hEd hz6;go_wp2_with (first | (at_builtin; (with_reducible refine wpList_app rfl (.tmp 26) (.tmp 28) rfl hEe.out flat_ev rfl hOa.out rfl (Sl.lit1' wc 84 (f, lb2, t) _ rfl 3 _ ?d0) ?d1 hza ?_); rotate_right; intro A6 c6 w6 hown6 hgr6 hb6 hat6))
    case d0 => rfl
    case d1 => omega
    have hS6 := hide ((hSa.out.grow hgr6 (fun q e => by have := hrow.out q e; omega)).more (show N + 1000 + 2 * k + 2 ≤ N + 1000 + 2 * (k + 1) by omega));have hon6 := hide (hona.out.grow hgr6 (fun q e => hrow.out q e));replace hown6 := hide hown6;clear hgr6 hb6 hat6 hOa hSa hona hrow y0 y1 y2;go_wp2_with fail;go_roundw
    case rel => exact ⟨k + 1, c6, A6, _, by omega, by go_num, rfl, hown6.out, hEd2.out, hS6.out, hon6.out⟩
    case measure => simp [intOf]; omega
  ·obtain rfl : k = m := by omega
   have k1 : ¬ (k : Int) < (k : Int) := by omega
   obtain ⟨wL, rfl⟩ : ∃ wL : World, wL = wr := ⟨_, rfl⟩;have b3 := hbox.out.c3;have q3 := hide (pick_calls b _ 3 wL hS.out (by omega));go_wp2_with fail;refine q3.out.mono ?_;rintro e w5 ⟨r0, rfl, r00, r01, hs5⟩;obtain ⟨r, rfl⟩ : ∃ r : Nat, r0 = (r : Int) := ⟨r0.toNat, by omega⟩;have hr2 : r ≤ 2 := by omega
   have hO5 := hide (hO.out.keep (w' := w5) fun g e => hs5.only.block g (hO.out.lt g e).2 (by have := (hO.out.lt g e).1; omega));have hon5 := hide (hon.out.trans' hs5.only);have hS5 := hide (hs5.src.more (show N + 1000 + 2 * k + 2 ≤ N + 1200 + 10 * (2 - r) by omega));clear q3 hs5 hO hon hS r00 r01 b3 hbox;go_wp2_with fail
   go_loopw [4, 7] (fun v4 v7 wr => ∃ (r mm cc : Nat) (E : Option Addr) (es1 : List Ed), r ≤ 2 ∧ v7 = .int .i64 (r : Nat) ∧ v4 = .slice E mm cc ∧ mm ≤ 62 - r ∧ Hid (Own 3 ev wr w2.heap.size 84 E mm cc es1) ∧ Hid (EdD st n es1) ∧ Hid (SrcW wr b (N + 1200 + 10 * (2 - r))) ∧ Hid (Only b (b + 1) w2 wr)) (fun _ v _ => (intOf v).toNat)
   case atStart => exact ⟨r, k, _, _, _, hr2, rfl, rfl, by omega, hO5.out, hEd.out, hS5.out, hon5.out⟩
   case round =>
    clear hO5 hon5 hS5 hEd hr2;obtain ⟨r, mm, cc, E, es1, hr, rfl, rfl, hmm, hO, hEd, hS, hon⟩ := hrel;have hbox := hide (hbox2.out.only hon.out (.inr (by omega)));have hzr := hon.out.size
    by_cases hpos : 0 < r
    ·have p1 : (0 : Int) < (r : Int) := by omega
     obtain ⟨NN, hNN⟩ : ∃ NN, N + 1200 + 10 * (2 - r) = NN := ⟨_, rfl⟩;rw [hNN] at hS;have hNNb : NN ≤ N + 2000 := by omega
     replace hNN := hide hNN;have q1 := hide (pick_calls b NN (st : Int) wr.drew hS.out.drew (by omega));go_upto_region 13 with fail
     focus
      refine lateT_begin (S := fun w' => w'.cell? ⟨w1.heap.size, 0, none⟩ = some (.int .i64 (st : Int))) (st := 12) (by kernel_rfl) ?_;have hS0 : (fun w' : World => w'.cell? ⟨w1.heap.size, 0, none⟩ = some (.int .i64 (st : Int))) wr.drew := hbox.out.c0;refine tkB 0 [12] hS0 ?_;refine tkB 1 [12] hS0 ?_;refine tkB 2 [12] hS0 ?_;refine tkB 3 [12] hS0 ?_;refine tkB 5 [12] hS0 ?_;refine tkB 6 [12] hS0 ?_;refine tkB 7 [12] hS0 ?_;refine lS 4 fun K hK => ?_
      go_simp;go_at_call 84
      refine q1.out.mono ?_;rintro e w5 ⟨f, rfl, f0, f1, h5⟩;have hb5 := hide (hbox.out.only (w := wr.drew) h5.only (.inr (by omega)));have k5 := hb5.out.c0;have q2 := hide (pick_calls b _ (st : Int) w5 h5.src (by omega));replace h5 := hide h5;clear q1;go_wp2_with fail;refine kP hK (fun _ => k5) ?_;clear hK K;refine lS 8 fun K hK => ?_
      go_simp;go_at_call 84
      refine q2.out.mono ?_;rintro e w6 ⟨tg, rfl, t0, t1, h6⟩;have hb6 := hide (hb5.out.only h6.only (.inr (by omega)));have k6 := hb6.out.c0;replace h6 := hide (h5.out.trans h6);have hO6 := hide (hO.out.keep (w' := w6) fun g e => h6.out.only.block (w := wr.drew) g (hO.out.lt g e).2 (by have := (hO.out.lt g e).1; omega));have hon6 := hide (hon.out.drew'.trans' h6.out.only);have hz6 := hon6.out.size;have hza : w2.heap.size ≤ (w6.alloc (.cells #[.int .i64 f, .int .i64 0, .int .i64 tg] 84)).heap.size := by rw [World.size_alloc]; omega
      have hOa := hide (hO6.out.alloc (.cells #[.int .i64 f, .int .i64 0, .int .i64 tg] 84));have hSa := hide (h6.out.src.alloc (.cells #[.int .i64 f, .int .i64 0, .int .i64 tg] 84));have hona := hide (hon6.out.alloc' (.cells #[.int .i64 f, .int .i64 0, .int .i64 tg] 84));have hbxa := hide (hb6.out.below ((Below.refl w6.heap.size w6).alloc zR (.cells #[.int .i64 f, .int .i64 0, .int .i64 tg] 84)) hb6.out.lt);have ka := hbxa.out.c0;have hrow := hide (fun q (e : (Value.slice E mm cc).ownBlock = some q) => (hOa.out.lt q e).1);have hEd2 := hide (hEd.out.app (f := f) (l := 0) (t := tg) (by omega) (by omega) (by omega));have hlit := hide (Sl.lit1' (f := ev) w6 84 (f, (0 : Int), tg) #[.int .i64 f, .int .i64 0, .int .i64 tg] rfl 3 _ rfl);have hsz : (mm + 1) * 24 ≤ 140737488355328 := by omega
      clear q2 h5 hO hon hS hEd;go_wp2_with fail;refine kP hK (fun _ => k6) ?_;clear hK K;refine lS 9 fun K hK => ?_
      go_simp;refine kP hK (fun _ => k6) ?_
      clear hK K;refine lS 10 fun K hK => ?_
      go_simp;refine kP hK (fun _ => ka) ?_
      clear hK K;refine lS 11 fun K hK => ?_
      refine step_appL (m := 1) (d := 1) (by rfl) (.tmp 36) (.tmp 46) (by rfl) hEe.out flat_ev (by go_simp) hOa.out (by go_simp) hlit.out hsz hza ?_;intro A6 c6 w7 hown7 hgr7 hb7 hat7;have hS7 := hide (hSa.out.grow hgr7 (fun q e => by have := hrow.out q e; omega));have hon7 := hide (hona.out.grow hgr7 (fun q e => hrow.out q e));have hbx7 := hide (hbxa.out.below hb7 (by omega));have k7 := hbx7.out.c0;replace hown7 := hide hown7;clear hgr7 hb7 hat7;refine kP hK (fun _ => k7) ?_;clear hK K;refine lS 12 fun K hK => ?_
      go_simp;refine kP hK nH ?_
      clear hK K;refine lateT_done (by kernel_rfl) ?_ _;obtain ⟨r2, rfl⟩ : ∃ r2, r = r2 + 1 := ⟨r - 1, by omega⟩;have hS8 := hide (hS7.out.more (show NN + 2 + 2 ≤ N + 1200 + 10 * (2 - r2) by have := hNN.out; omega));go_wp2_with fail;go_roundw
      case rel => exact ⟨r2, mm + 1, c6, A6, _, by omega, by go_num, rfl, by omega, hown7.out, hEd2.out, hS8.out, hon7.out⟩
      case measure => simp [intOf]
    ·obtain rfl : r = 0 := by omega
     have p1 : ¬ (0 : Int) < ((0 : Nat) : Int) := by omega
     have c0 := hbox.out.c0;have c1 := hbox.out.c1;have c2 := hbox.out.c2;have hmmL := hO.out.len;have r2 := hide (l11Make_calls (st : Int) (ini : Int) A n c (joiF ts) E mm cc es1 wr ((hA2.out.only hon.out (.inr (by omega))).more (Nat.zero_le _) (by omega)) ((hO.out.sl flat_ev).more (Nat.zero_le _) zR) (fun e he => (hEd.out e he).2.1) (by omega) (by omega));go_wp2_with fail;refine r2.out.mono ?_;rintro e w7 ⟨A3, n3, c3, B3, m3, d3, es3, rfl, hA3, hB3, hM, hb7⟩;have hF := hide ((hon2.out.trans' hon.out).belowAt hb7 (by omega));have h8 : w7.heap[w.heap.size]? = _ := (hF.out.block w.heap.size hz0 (by omega)).trans k8.out;have a0 : w7.cell? ⟨w.heap.size, 0, none⟩ = some (.int .i64 0) := cR 0 h8;have a1 : w7.cell? ⟨w.heap.size, 1, none⟩ = some (.int .i64 0) := cR 1 h8;have a2 : w7.cell? ⟨w.heap.size, 2, none⟩ = some (.slice none 0 0) := cR 2 h8;have a3 : w7.cell? ⟨w.heap.size, 3, none⟩ = some (.slice none 0 0) := cR 3 h8;have z0 : w7.frozen? ⟨w.heap.size, 0, none⟩ = false := frozen_of_row _ _ 0 _ _ h8;have z1 : w7.frozen? ⟨w.heap.size, 1, none⟩ = false := frozen_of_row _ _ 1 _ _ h8;have z2 : w7.frozen? ⟨w.heap.size, 2, none⟩ = false := frozen_of_row _ _ 2 _ _ h8;have z3 : w7.frozen? ⟨w.heap.size, 3, none⟩ = false := frozen_of_row _ _ 3 _ _ h8;have hS7 := hide (hS.out.below hb7 (by omega));have hz7 := hb7.size;have hlA3 := hA3.len;have hlj := joi_len (joiF ts);replace hA3 := hide hA3;replace hB3 := hide hB3;replace hM := hide hM;replace h8 := hide h8;clear r2 hb7 c0 c1 c2 hbox;go_wp2_with fail
     (try simp only [Exit.inBlock, Exit.then])
     refine bodyPost_ret_by (v := .agg #[.int .i64 (st : Int), .int .i64 (ini : Int), .slice A3 n3 c3, .slice B3 m3 d3]) ?_ rfl ?_
     focus
      rw [results_cell1 rfl];go_simp
     change DrawnG 7 64 2000 b N w _ (put4 w7 w.heap.size _ _ _ _)
     have hZs := put4_size w7 w.heap.size (.int .i64 (st : Int)) (.int .i64 (ini : Int)) (.slice A3 n3 c3) (.slice B3 m3 d3);have hnam : NamD (joiF ts) := fun x hx => ((joi_mem_iff ts x).1 hx).elim .inl (hD.out x)
     have hlab : ∀ x, x ∈ joiF ts → x = tauB ∨ labS x = true := fun x hx => (hnam x hx).imp id fun h => (nm5_lab x h).1
     have hmade : ltsV ((st : Int), (ini : Int), joiF (joiF ts), es3) = true := made_valid (by omega) (by omega) hlab (by omega) (by omega) (fun e he => ⟨(hEd.out e he).1, (hEd.out e he).2.2⟩) hM.out;refine ⟨st, ini, A3, n3, c3, B3, m3, d3, joiF ts, es3, rfl, ?_, ?_, hmade, by omega, by have := hM.out.2.1; omega, by omega, hnam, ?_, ?_⟩
     ·exact (Sl.keep hA3.out (by omega) fun q h1 h2 h3 => put4_other _ _ _ _ _ _ (by omega)).more (by omega) (by omega)
     ·exact (Sl.keep hB3.out (by omega) fun q h1 h2 h3 => put4_other _ _ _ _ _ _ (by omega)).more (by omega) (by omega)
     ·exact (hS7.out.keep (by omega) fun q hq => put4_other _ _ _ _ _ _ (by omega)).more (by omega)
     ·exact put4_only (hon0.out.trans' hF.out) zR _ _ _ _
end Go.Proofs.YtnhomkmfbngmgaaGreatDoor
namespace Go.Proofs.YtnhomkmfbngmgaaGreatDoor
def firsts : List Int → List Int → List Int
 | L, [] => L
 | L, x :: l => firsts (if x ∈ L then L else L ++ [x]) l
theorem firsts_mem {L l : List Int} {x : Int} : x ∈ firsts L l ↔ x ∈ L ∨ x ∈ l := by
 induction l generalizing L with
 | nil => simp [firsts]
 | cons t l ih =>
  unfold firsts;rw [ih]
  split
  ·rename_i h
   constructor
   ·rintro (g | g)
    ·exact .inl g
    ·exact .inr (List.mem_cons_of_mem _ g)
   ·rintro (g | g)
    ·exact .inl g
    ·rcases List.mem_cons.1 g with rfl | g
     ·exact .inl h
     ·exact .inr g
  ·simp only [List.mem_append, List.mem_singleton, List.mem_cons, or_assoc, List.not_mem_nil, false_or]
def normF (l : List Int) : List Int := l.map fun x => ((firsts [] l).idxOf x : Int)
theorem normF_len (l : List Int) : (normF l).length = l.length := by simp [normF]
theorem normF_at {l : List Int} {i : Nat} {x : Int} (h : l[i]? = some x) : (normF l)[i]? = some ((firsts [] l).idxOf x : Int) := by
 unfold normF; rw [List.getElem?_map, h]; rfl
def sameB (l : List Int) (i j : Nat) : Prop := l[i]? = l[j]?
theorem normF_same {l : List Int} {i j : Nat} (hi : i < l.length) (hj : j < l.length) : sameB (normF l) i j ↔ sameB l i j := by
 unfold sameB;have h1 : l[i]? = some l[i] := List.getElem?_eq_getElem hi;have h2 : l[j]? = some l[j] := List.getElem?_eq_getElem hj;rw [normF_at h1, normF_at h2, h1, h2]
 constructor
 ·intro h
  injection h with h;have h : (firsts [] l).idxOf l[i] = (firsts [] l).idxOf l[j] := by omega
  have g1 := List.idxOf_lt_length_of_mem (firsts_mem.2 (.inr (List.getElem_mem hi)) : l[i] ∈ firsts [] l);have g2 := List.idxOf_lt_length_of_mem (firsts_mem.2 (.inr (List.getElem_mem hj)) : l[j] ∈ firsts [] l);have e1 := List.getElem_idxOf g1;have e2 := List.getElem_idxOf g2;rw [← e1, ← e2];simp only [h]
 ·intro h
  injection h with h;rw [h]
theorem firsts_map {f : Int → Int} {L l : List Int} (hf : ∀ x y, x ∈ L ++ l → y ∈ L ++ l → f x = f y → x = y) : firsts (L.map f) (l.map f) = (firsts L l).map f := by
 induction l generalizing L with
 | nil => rfl
 | cons x l ih =>
  rw [List.map_cons];unfold firsts
  by_cases h : x ∈ L
  ·rw [if_pos h, if_pos (List.mem_map_of_mem h)]
   exact ih fun a b ha hb => hf a b (by rw [List.mem_append, List.mem_cons]; rcases List.mem_append.1 ha with g | g; exact .inl g; exact .inr (.inr g)) (by rw [List.mem_append, List.mem_cons]; rcases List.mem_append.1 hb with g | g; exact .inl g; exact .inr (.inr g))
  ·rw [if_neg h, if_neg (fun hm => by
    obtain ⟨y, hy, e⟩ := List.mem_map.1 hm;have := hf y x (List.mem_append_left _ hy) (List.mem_append_right _ (List.mem_cons_self ..)) e;exact h (this ▸ hy))]
   rw [show L.map f ++ [f x] = (L ++ [x]).map f by simp];exact ih fun a b ha hb => hf a b (by simpa using ha) (by simpa using hb)
theorem idxOf_mapI {f : Int → Int} : ∀ {L : List Int} {x : Int}, (∀ y, y ∈ L → f y = f x → y = x) → (L.map f).idxOf (f x) = L.idxOf x
 | [], x, _ => rfl
 | a :: L, x, h => by
  rw [List.map_cons, List.idxOf_cons, List.idxOf_cons]
  by_cases e : a = x
  ·subst e; simp
  ·have : f a ≠ f x := fun g => e (h a (List.mem_cons_self ..) g)
   rw [beq_eq_false_iff_ne.2 e, beq_eq_false_iff_ne.2 this];simp only [cond_false];rw [idxOf_mapI fun y hy => h y (List.mem_cons_of_mem _ hy)]
theorem normF_map {f : Int → Int} {l : List Int} (hf : ∀ x y, x ∈ l → y ∈ l → f x = f y → x = y) : normF (l.map f) = normF l := by
 unfold normF;have h := firsts_map (f := f) (L := []) (l := l) (by simpa using hf);rw [List.map_nil] at h;rw [h, List.map_map]
 apply List.map_congr_left
 intro x hx
 show (((firsts [] l).map f).idxOf (f x) : Int) = _
 rw [idxOf_mapI fun y hy e => hf y x ((firsts_mem.1 hy).resolve_left (by simp)) hx e]
theorem normF_ext {l m : List Int} (hl : l.length = m.length) (h : ∀ i j, i < l.length → j < l.length → (sameB l i j ↔ sameB m i j)) : normF l = normF m := by
 have key : ∃ f : Int → Int, m = l.map f := by
  refine ⟨fun x => (m[l.idxOf x]?).getD 0, List.ext_getElem (by simp [hl]) fun i h1 h2 => ?_⟩;rw [List.getElem_map];have hi : i < l.length := by omega
  have hx : l.idxOf l[i] < l.length := List.idxOf_lt_length_of_mem (List.getElem_mem hi);have hs : sameB l (l.idxOf l[i]) i := by
   unfold sameB;rw [List.getElem?_eq_getElem hx, List.getElem?_eq_getElem hi];exact congrArg some (List.getElem_idxOf hx)
  have := (h _ _ hx hi).1 hs;unfold sameB at this;rw [this, List.getElem?_eq_getElem h1]
  rfl
 obtain ⟨f, rfl⟩ := key;refine (normF_map fun x y hx hy e => ?_).symm;obtain ⟨i, hi, rfl⟩ := List.getElem_of_mem hx;obtain ⟨j, hj, rfl⟩ := List.getElem_of_mem hy;have := (h i j hi hj).2 (by unfold sameB; rw [List.getElem?_map, List.getElem?_map, List.getElem?_eq_getElem hi, List.getElem?_eq_getElem hj]; exact congrArg some e);unfold sameB at this;rw [List.getElem?_eq_getElem hi, List.getElem?_eq_getElem hj] at this;injection this
theorem normF_norm (l : List Int) : normF (normF l) = normF l :=
 normF_ext (normF_len l) fun i j hi hj => normF_same (by rw [normF_len] at hi; exact hi) (by rw [normF_len] at hj; exact hj)
section
variable {p q : List Int}
end
section
variable {L : List Int} {R : List (Nat × Nat)} {a b : Nat}
end
def selfL (n : Nat) : List Int := (List.range n).map Int.ofNat
section
variable {p q : List Int}
end
theorem firsts_nodup {L l : List Int} (h : L.Nodup) : (firsts L l).Nodup := by
 induction l generalizing L with
 | nil => exact h
 | cons x l ih =>
  unfold firsts;refine ih ?_
  split
  ·exact h
  ·rename_i hn
   refine List.nodup_append.2 ⟨h, by simp, ?_⟩;intro a ha b hb e;rw [List.mem_singleton] at hb;subst hb; subst e;exact hn ha
theorem idx_self {L : List Int} (h : L.Nodup) {i : Nat} (hi : i < L.length) : L.idxOf L[i] = i := by
 have h1 := List.idxOf_lt_length_of_mem (List.getElem_mem hi : L[i] ∈ L);have h2 := List.getElem_idxOf h1
 rcases Nat.lt_trichotomy (L.idxOf L[i]) i with g | g | g
 ·exact absurd h2 (List.pairwise_iff_getElem.1 h _ _ h1 hi g)
 ·exact g
 ·exact absurd h2.symm (List.pairwise_iff_getElem.1 h _ _ hi h1 g)
theorem firsts_norm (l : List Int) : firsts [] (normF l) = selfL (firsts [] l).length := by
 have hn : (firsts [] l).Nodup := firsts_nodup List.nodup_nil;have h := firsts_map (f := fun x => ((firsts [] l).idxOf x : Int)) (L := []) (l := l) (by
  intro x y hx hy e;have hx : x ∈ firsts [] l := firsts_mem.2 (.inr (by simpa using hx));have hy : y ∈ firsts [] l := firsts_mem.2 (.inr (by simpa using hy));have e : (firsts [] l).idxOf x = (firsts [] l).idxOf y := by omega
  have g1 := List.getElem_idxOf (List.idxOf_lt_length_of_mem hx);have g2 := List.getElem_idxOf (List.idxOf_lt_length_of_mem hy);rw [← g1, ← g2];simp only [e])
 rw [List.map_nil] at h
 show firsts [] (l.map _) = _
 rw [h];refine List.ext_getElem (by simp [selfL]) fun i h1 h2 => ?_
 have h3 : i < (firsts [] l).length := by simpa using h1
 rw [List.getElem_map, idx_self hn h3]
 simp [selfL]
section
variable {p : List Int} {i : Nat} {x : Int}
end
end Go.Proofs.YtnhomkmfbngmgaaGreatDoor
namespace Go.Proofs
open Go.Shelf
def Tryz.laysCompactI_ren : Go.Shelf.Ren := ⟨fun | 43 => 161 | n => n, fun | 22 => 32 | 23 => 2 | 3 => 3 | 4 => 4 | 0 => 0 | n => n, fun | n => n⟩
theorem Tryz.laysCompactI : Go.Proofs.SlLaysN.n43 Tryz.prog Tryz.laysCompactI_ren := {
 mixed := by kernel_rfl
 f43 := ⟨Tryz.f161.name, by decide, Tryz.func161.trans (congrArg some (by kernel_rfl))⟩
 t0 := Tryz.underlying0
 a0 := Tryz.isAgg0
 z0 := Tryz.sizeOf0
 v0 := Tryz.zeroValue0
 t3 := Tryz.underlying3
 a3 := Tryz.isAgg3
 z3 := Tryz.sizeOf3
 v3 := Tryz.zeroValue3
 t4 := Tryz.underlying4
 a4 := Tryz.isAgg4
 z4 := Tryz.sizeOf4
 v4 := Tryz.zeroValue4
 t22 := Tryz.underlying32
 a22 := Tryz.isAgg32
 z22 := Tryz.sizeOf32
 v22 := Tryz.zeroValue32
 t23 := Tryz.underlying2
 a23 := Tryz.isAgg2
 z23 := Tryz.sizeOf2
 v23 := Tryz.zeroValue2
 i23 := by kernel_rfl }
open Go.RowKit Go.Lib Go.Sort in
theorem Tryz.slices_Compact_int (blk off cap : Nat) (zs : List Int) (w : World) (hH : Holds (Value.int .i64) w blk off zs.toArray) (hsz : zs.length ≤ 9223372036854775807) (hcap : zs.length ≤ cap) :
  Calls Tryz.prog 161 #[.slice (some ⟨blk, off, none⟩) zs.length cap] w fun e w' => e = .returned (.slice (some ⟨blk, off, none⟩) (Lib.compact zs).length cap) ∧ ∃ q, w' = putRow (Value.int .i64) (Sort.ahead w q) blk off (Lib.compact zs ++ List.replicate (zs.length - (Lib.compact zs).length) 0).toArray := AnyG.slices_Compact_int Tryz.laysCompactI blk off cap zs w hH hsz hcap
open Go.RowKit Go.Lib Go.Sort in
theorem Tryz.slices_Compact_int_empty (a : Option Addr) (cap : Nat) (w : World) :
  Calls Tryz.prog 161 #[.slice a 0 cap] w fun e w' => e = .returned (.slice a 0 cap) ∧ w' = w := AnyG.slices_Compact_int_empty Tryz.laysCompactI a cap w
def Tryz.laysSortI_ren : Go.Shelf.Ren := ⟨fun | 5 => 160 | 8 => 224 | 7 => 238 | 19 => 289 | 20 => 290 | 10 => 295 | 11 => 296 | 12 => 297 | 13 => 298 | 14 => 299 | 15 => 300 | 16 => 301 | 17 => 302 | 18 => 303 | 30 => 354 | 31 => 340 | 32 => 341 | 33 => 355 | 34 => 356 | 35 => 274 | 40 => 383 | n => n, fun | 23 => 32 | 25 => 2 | 3 => 3 | 32 => 243 | 22 => 32 | 0 => 0 | 44 => 292 | 46 => 137 | 4 => 4 | 36 => 285 | 35 => 284 | 41 => 289 | 5 => 5 | 9 => 9 | 53 => 327 | 57 => 331 | 63 => 352 | 64 => 353 | n => n, fun | n => n⟩
theorem Tryz.laysSortI : Go.Proofs.SlLaysM.n5 Tryz.prog Tryz.laysSortI_ren := {
 mixed := by kernel_rfl
 f5 := ⟨Tryz.f160.name, by decide, Tryz.func160.trans (congrArg some (by kernel_rfl))⟩
 f7 := ⟨Tryz.f238.name, by decide, Tryz.func238.trans (congrArg some (by kernel_rfl))⟩
 f8 := Tryz.func224.trans (congrArg some (by kernel_rfl))
 f10 := ⟨Tryz.f295.name, by decide, Tryz.func295.trans (congrArg some (by kernel_rfl))⟩
 f11 := ⟨Tryz.f296.name, by decide, Tryz.func296.trans (congrArg some (by kernel_rfl))⟩
 f12 := ⟨Tryz.f297.name, by decide, Tryz.func297.trans (congrArg some (by kernel_rfl))⟩
 f13 := ⟨Tryz.f298.name, by decide, Tryz.func298.trans (congrArg some (by kernel_rfl))⟩
 f14 := ⟨Tryz.f299.name, by decide, Tryz.func299.trans (congrArg some (by kernel_rfl))⟩
 f15 := ⟨Tryz.f300.name, by decide, Tryz.func300.trans (congrArg some (by kernel_rfl))⟩
 f16 := ⟨Tryz.f301.name, by decide, Tryz.func301.trans (congrArg some (by kernel_rfl))⟩
 f17 := ⟨Tryz.f302.name, by decide, Tryz.func302.trans (congrArg some (by kernel_rfl))⟩
 f18 := ⟨Tryz.f303.name, by decide, Tryz.func303.trans (congrArg some (by kernel_rfl))⟩
 f19 := Tryz.func289.trans (congrArg some (by kernel_rfl))
 f20 := Tryz.func290.trans (congrArg some (by kernel_rfl))
 f30 := ⟨Tryz.f354.name, by decide, Tryz.func354.trans (congrArg some (by kernel_rfl))⟩
 f31 := Tryz.func340.trans (congrArg some (by kernel_rfl))
 f32 := Tryz.func341.trans (congrArg some (by kernel_rfl))
 f33 := ⟨Tryz.f355.name, by decide, Tryz.func355.trans (congrArg some (by kernel_rfl))⟩
 f34 := ⟨Tryz.f356.name, by decide, Tryz.func356.trans (congrArg some (by kernel_rfl))⟩
 f35 := ⟨Tryz.f274.name, by decide, Tryz.func274.trans (congrArg some (by kernel_rfl))⟩
 f40 := ⟨Tryz.f383.name, by decide, Tryz.func383.trans (congrArg some (by kernel_rfl))⟩
 t0 := Tryz.underlying0
 a0 := Tryz.isAgg0
 z0 := Tryz.sizeOf0
 v0 := Tryz.zeroValue0
 t3 := Tryz.underlying3
 a3 := Tryz.isAgg3
 z3 := Tryz.sizeOf3
 v3 := Tryz.zeroValue3
 t4 := Tryz.underlying4
 a4 := Tryz.isAgg4
 z4 := Tryz.sizeOf4
 v4 := Tryz.zeroValue4
 t5 := Tryz.underlying5
 a5 := Tryz.isAgg5
 z5 := Tryz.sizeOf5
 v5 := Tryz.zeroValue5
 t9 := Tryz.underlying9
 a9 := Tryz.isAgg9
 z9 := Tryz.sizeOf9
 v9 := Tryz.zeroValue9
 t22 := Tryz.underlying32
 a22 := Tryz.isAgg32
 z22 := Tryz.sizeOf32
 v22 := Tryz.zeroValue32
 t23 := Tryz.underlying32
 a23 := Tryz.isAgg32
 z23 := Tryz.sizeOf32
 v23 := Tryz.zeroValue32
 t25 := Tryz.underlying2
 a25 := Tryz.isAgg2
 z25 := Tryz.sizeOf2
 v25 := Tryz.zeroValue2
 t32 := Tryz.underlying243
 a32 := Tryz.isAgg243
 z32 := Tryz.sizeOf243
 v32 := Tryz.zeroValue243
 t35 := Tryz.underlying284
 a35 := Tryz.isAgg284
 z35 := Tryz.sizeOf284
 v35 := Tryz.zeroValue284
 t36 := Tryz.underlying285
 a36 := Tryz.isAgg285
 z36 := Tryz.sizeOf285
 v36 := Tryz.zeroValue285
 t41 := Tryz.underlying289
 a41 := Tryz.isAgg289
 z41 := Tryz.sizeOf289
 v41 := Tryz.zeroValue289
 t44 := Tryz.underlying292
 a44 := Tryz.isAgg292
 z44 := Tryz.sizeOf292
 v44 := Tryz.zeroValue292
 t46 := Tryz.underlying137
 a46 := Tryz.isAgg137
 z46 := Tryz.sizeOf137
 v46 := Tryz.zeroValue137
 t53 := Tryz.underlying327
 a53 := Tryz.isAgg327
 z53 := Tryz.sizeOf327
 v53 := Tryz.zeroValue327
 t57 := Tryz.underlying331
 a57 := Tryz.isAgg331
 z57 := Tryz.sizeOf331
 v57 := Tryz.zeroValue331
 t63 := Tryz.underlying352
 a63 := Tryz.isAgg352
 z63 := Tryz.sizeOf352
 v63 := Tryz.zeroValue352
 t64 := Tryz.underlying353
 a64 := Tryz.isAgg353
 z64 := Tryz.sizeOf353
 v64 := Tryz.zeroValue353 }
open Go.RowKit Go.Lib Go.Sort in
theorem Tryz.slices_Sort_int (blk off cap : Nat) (zs : List Int) (w : World) (hH : Holds (Value.int .i64) w blk off zs.toArray) (hblk : blk < w.heap.size) (hsz : zs.length < 4611686018427387904) :
  Calls Tryz.prog 160 #[.slice (some ⟨blk, off, none⟩) zs.length cap] w fun e w' =>
   e = .returned (.tuple #[]) ∧ ∃ n os, w' = grow (putRow (Value.int .i64) (Sort.ahead w n) blk off (zs.mergeSort fun x y => decide (x ≤ y)).toArray) os := AnyM.slices_Sort_int Tryz.laysSortI blk off cap zs w hH hblk hsz
open Go.RowKit Go.Lib Go.Sort in
theorem Tryz.slices_Sort_int_none (p : Option Addr) (cap : Nat) (w : World) :
  Calls Tryz.prog 160 #[.slice p 0 cap] w fun e w' => e = .returned (.tuple #[]) ∧ w' = w := AnyM.slices_Sort_int_none Tryz.laysSortI p cap w
end Go.Proofs
namespace Go.Proofs.YtnhomkmfbngmgaaGreatDoor
open Go.RowKit Go.Sort Go.Lib
def sortI (l : List Int) : List Int := l.mergeSort fun x y => decide (x ≤ y)
theorem sortI_nil : sortI [] = [] := by simp [sortI]
theorem sortI_len (l : List Int) : (sortI l).length = l.length := List.length_mergeSort _
theorem sortI_mem {l : List Int} {x : Int} : x ∈ sortI l ↔ x ∈ l := List.mem_mergeSort
theorem iv_map (l : List Int) : l.flatMap iv = l.map (Value.int .i64) := by
 induction l with
 | nil => rfl
 | cons x l ih => rw [List.flatMap_cons, ih]; rfl
theorem compact_mem {l : List Int} {x : Int} : x ∈ Lib.compact l ↔ x ∈ l := by
 unfold Lib.compact Lib.compactUpTo;rw [List.mem_map]
 constructor
 ·rintro ⟨k, hk, rfl⟩
  have hk' := List.mem_range.1 (List.mem_filter.1 hk).1;rw [getElem!_pos _ k (by simpa using hk')]
  simp
 ·intro hx
  obtain ⟨k, hk, rfl⟩ := List.mem_iff_getElem.1 hx;have key : ∀ k, (hk : k < l.length) → ∃ a, a ∈ (List.range l.length).filter (Lib.keeps l.toArray) ∧ l.toArray[a]! = l[k] := by
   intro k
   induction k with
   | zero => exact fun hk => ⟨0, List.mem_filter.2 ⟨List.mem_range.2 hk, by simp [Lib.keeps]⟩, by rw [getElem!_pos _ 0 (by simpa using hk)]; simp⟩
   | succ k ih =>
    intro hk
    by_cases h : l.toArray[k + 1]! = l.toArray[k]!
    ·obtain ⟨a, ha, e⟩ := ih (by omega)
     refine ⟨a, ha, ?_⟩;rw [e];rw [getElem!_pos _ (k + 1) (by simpa using hk), getElem!_pos _ k (by simp; omega)] at h
     simpa using h.symm
    ·exact ⟨k + 1, List.mem_filter.2 ⟨List.mem_range.2 hk, Lib.keeps_pos (by simpa using h)⟩, by rw [getElem!_pos _ (k + 1) (by simpa using hk)]; simp⟩
  exact key k hk
theorem compact_len (l : List Int) : (Lib.compact l).length ≤ l.length := by
 unfold Lib.compact Lib.compactUpTo;rw [List.length_map];exact Nat.le_trans (List.length_filter_le _ _) (by simp)
section
variable {w : World} {base g n c q : Nat} {e : TypeId} {l d : List Int} {os : Array Obj}
theorem put_block (w : World) (g q : Nat) (d : List Int) (os : Array Obj) (hg : g < w.heap.size) :
  (grow (putRow (Value.int .i64) (Sort.ahead w q) g 0 d.toArray) os).heap[g]? = (w.heap[g]?).map (onCells (Go.Sort.putCells (Value.int .i64) 0 d.toArray)) := by
 rw [heap_grow_old _ _ (by simpa [putRow, mapBlock, Sort.ahead] using hg)]
 simp [putRow, mapBlock, Sort.ahead, Array.getElem?_modify]
theorem put_grown (w : World) (g q : Nat) (d : List Int) (os : Array Obj) : w.grownBy (grow (putRow (Value.int .i64) (Sort.ahead w q) g 0 d.toArray) os) (some g) := by
 refine ⟨rfl, rfl, rfl, by simp [putRow, mapBlock, Sort.ahead], fun k hk hne => ?_⟩;rw [heap_grow_old _ _ (by simpa [putRow, mapBlock, Sort.ahead] using hk)];have hne' : g ≠ k := fun h => hne (by rw [h])
 simp [putRow, mapBlock, Sort.ahead, Array.getElem?_modify, hne']
theorem Own.put (h : Own 1 iv w base e (some ⟨g, 0, none⟩) n c l) (hd : d.length = n) {m : Nat} (hm : m ≤ n) :
  Own 1 iv (grow (putRow (Value.int .i64) (Sort.ahead w q) g 0 d.toArray) os) base e (some ⟨g, 0, none⟩) m c (d.take m) := by
 rcases h.2.2 with ⟨hv, -⟩ | ⟨g', cap, cur, hv, hb, hg, hnc, hcm, hcs, htake⟩
 ·cases hv
 ·cases hv
  have hlt : g < w.heap.size := (Array.getElem?_eq_some_iff.1 hg).1;have hl : (d.take m).length = m := by rw [List.length_take]; omega
  refine ⟨hl, by rw [flat_length flat_iv, hl], .inr ⟨g, c, Go.Sort.putCells (Value.int .i64) 0 d.toArray cur, rfl, hb, ?_, by omega, hcm, by simp [Go.Sort.putCells, hcs], ?_⟩⟩
  ·rw [put_block _ _ _ _ _ hlt, hg]
   rfl
  ·rw [iv_map]
   apply List.ext_getElem?
   intro k
   by_cases hk : k < m
   ·have hkc : k < cur.size := by omega
    have hkd : k < d.length := by omega
    rw [List.getElem?_take, if_pos (by omega), List.getElem?_map, List.getElem?_take, if_pos hk, Array.getElem?_toList, List.getElem?_eq_getElem hkd];simp only [Go.Sort.putCells, Array.getElem?_mapIdx, Array.getElem?_eq_getElem hkc, Option.map_some];rw [if_pos ⟨Nat.zero_le _, by simp; omega⟩, Nat.sub_zero, getElem!_pos _ k (by simpa using hkd)]
    simp
   ·rw [List.getElem?_eq_none (by simp; omega), List.getElem?_eq_none (by simp; omega)]
theorem Own.holds (h : Own 1 iv w base e (some ⟨g, 0, none⟩) n c l) : Holds (Value.int .i64) w g 0 l.toArray := by
 intro j hj;have hj' : j < l.length := by simpa using hj
 have hs := h.sl flat_iv;have hn := h.len;obtain ⟨b', off', e', -, -, -, hc⟩ := hs.at_ (by omega)
 cases e'
 have := hc j l[j] (List.getElem?_eq_getElem hj') 0 (.int .i64 l[j]) rfl;rw [getElem!_pos _ j hj]
 simpa using this
end
section
variable {w : World} {base n c : Nat} {A : Option Addr} {l : List Int}
theorem sortI_calls (h : Own 1 iv w base 2 A n c l) (hn : n ≤ 1000000000) :
  Calls Tryz.prog 160 #[.slice A n c] w fun e w' => e = .returned (.tuple #[]) ∧ Own 1 iv w' base 2 A n c (sortI l) ∧ w.grownBy w' (Value.slice A n c).ownBlock := by
 rcases h.2.2 with ⟨hv, hn0⟩ | ⟨g, cap, cur, hv, hb, hg, hnc, hcm, hcs, htake⟩
 ·cases hv
  have hl := List.eq_nil_of_length_eq_zero h.len;subst hl;refine (Tryz.slices_Sort_int_none none 0 w).mono ?_;rintro e w' ⟨rfl, rfl⟩;rw [sortI_nil];exact ⟨rfl, h, ⟨rfl, rfl, rfl, zR, fun _ _ _ => rfl⟩⟩
 ·cases hv
  have hlt : g < w.heap.size := (Array.getElem?_eq_some_iff.1 hg).1;have hq := Tryz.slices_Sort_int g 0 c l w h.holds hlt (by have := h.len; omega);rw [h.len] at hq;refine hq.mono ?_;rintro e w' ⟨rfl, q, os, rfl⟩;refine ⟨rfl, ?_, put_grown _ _ _ _ _⟩;have := h.put (d := sortI l) (q := q) (os := os) ((sortI_len l).trans h.len) (Nat.le_refl n)
  rwa [List.take_of_length_le (by rw [sortI_len, h.len]; exact zR)] at this
theorem compactI_calls (h : Own 1 iv w base 2 A n c l) (hn : n ≤ 1000000000) :
  Calls Tryz.prog 161 #[.slice A n c] w fun e w' => e = .returned (.slice A (Lib.compact l).length c) ∧ Own 1 iv w' base 2 A (Lib.compact l).length c (Lib.compact l) ∧ w.grownBy w' (Value.slice A n c).ownBlock := by
 rcases h.2.2 with ⟨hv, hn0⟩ | ⟨g, cap, cur, hv, hb, hg, hnc, hcm, hcs, htake⟩
 ·cases hv
  have hl := List.eq_nil_of_length_eq_zero h.len;subst hl;refine (Tryz.slices_Compact_int_empty none 0 w).mono ?_;rintro e w' ⟨rfl, rfl⟩;exact ⟨rfl, h, ⟨rfl, rfl, rfl, zR, fun _ _ _ => rfl⟩⟩
 ·cases hv
  have hlt : g < w.heap.size := (Array.getElem?_eq_some_iff.1 hg).1;have hlen := compact_len l;have hq := Tryz.slices_Compact_int g 0 c l w h.holds (by have := h.len; omega) (by have := h.len; omega);rw [h.len] at hq hlen;refine hq.mono ?_;rintro e w' ⟨rfl, q, rfl⟩;have hd : (Lib.compact l ++ List.replicate (n - (Lib.compact l).length) 0).length = n := by simp; omega
  have h1 := h.put (d := Lib.compact l ++ List.replicate (n - (Lib.compact l).length) 0) (q := q) (os := #[]) hd hlen;have h2 := put_grown w g q (Lib.compact l ++ List.replicate (n - (Lib.compact l).length) 0) #[];rw [grow_empty] at h1 h2;rw [List.take_left'  rfl] at h1;exact ⟨rfl, h1, h2⟩
end
end Go.Proofs.YtnhomkmfbngmgaaGreatDoor
namespace Go.Proofs.YtnhomkmfbngmgaaGreatDoor
open Go.Sort
theorem sortI_asc (l : List Int) : (sortI l).Pairwise (· ≤ ·) := by
 have := List.pairwise_mergeSort (le := fun x y : Int => decide (x ≤ y)) (fun a b c h1 h2 => by simp only [decide_eq_true_eq] at *; omega) (fun a b => by simp only [Bool.or_eq_true, decide_eq_true_eq]; omega) l;exact this.imp fun h => by simpa using h
theorem compact_asc {l : List Int} (h : l.Pairwise (· ≤ ·)) : (Lib.compact l).Pairwise (· < ·) := by
 unfold Lib.compact Lib.compactUpTo;rw [List.pairwise_map];refine List.Pairwise.imp_of_mem (fun {p q} hp hq hpq => ?_) (List.Pairwise.filter _ (List.pairwise_lt_range (n := l.length)));obtain ⟨hp1, -⟩ := List.mem_filter.1 hp;obtain ⟨hq1, hq2⟩ := List.mem_filter.1 hq;have hp1 := List.mem_range.1 hp1;have hq1 := List.mem_range.1 hq1;unfold Lib.keeps at hq2;rw [decide_eq_true_eq] at hq2;have hne : l.toArray[q]! ≠ l.toArray[q - 1]! := hq2.resolve_left (by omega);rw [getElem!_pos _ q (by simpa using hq1), getElem!_pos _ (q - 1) (by simp; omega)] at hne;rw [getElem!_pos _ p (by simpa using hp1), getElem!_pos _ q (by simpa using hq1)];simp only [List.getElem_toArray] at hne ⊢;have h1 := List.pairwise_iff_getElem.1 h (q - 1) q (by omega) hq1 (by omega)
 by_cases e : p = q - 1
 ·subst e; omega
 ·have h3 := List.pairwise_iff_getElem.1 h p (q - 1) hp1 (by omega) (by omega)
  omega
theorem set_asc (l : List Int) : (Lib.compact (sortI l)).Pairwise (· < ·) := compact_asc (sortI_asc l)
theorem set_mem {l : List Int} {x : Int} : x ∈ Lib.compact (sortI l) ↔ x ∈ l := by rw [compact_mem, sortI_mem]
section
variable {α : Type} [BEq α]
def nkL (keys : List α) : List Int := keys.map fun k => (keys.idxOf k : Int)
def nkF (keys : List α) : List Int := normF (nkL keys)
theorem nkF_len (keys : List α) : (nkF keys).length = keys.length := by unfold nkF nkL; rw [normF_len, List.length_map]
theorem nkF_norm (keys : List α) : normF (nkF keys) = nkF keys := normF_norm _
theorem nk_same [LawfulBEq α] {keys : List α} {i j : Nat} (hi : i < keys.length) (hj : j < keys.length) : sameB (nkF keys) i j ↔ keys[i]? = keys[j]? := by
 have hl : (nkL keys).length = keys.length := by simp [nkL]
 rw [nkF, normF_same (by omega) (by omega)];unfold sameB nkL;rw [List.getElem?_map, List.getElem?_map, List.getElem?_eq_getElem hi, List.getElem?_eq_getElem hj];simp only [Option.map_some, Option.some.injEq]
 constructor
 ·intro h
  have h : keys.idxOf keys[i] = keys.idxOf keys[j] := by omega
  have g1 := List.idxOf_lt_length_of_mem (List.getElem_mem hi);have g2 := List.idxOf_lt_length_of_mem (List.getElem_mem hj);have e1 := List.getElem_idxOf g1;have e2 := List.getElem_idxOf g2;rw [← e1, ← e2];simp only [h]
 ·intro h; rw [h]
end
theorem asc_ext : ∀ {l m : List Int}, l.Pairwise (· < ·) → m.Pairwise (· < ·) → (∀ x, x ∈ l ↔ x ∈ m) → l = m
 | [], [], _, _, _ => rfl
 | [], y :: m, _, _, h => absurd ((h y).2 (List.mem_cons_self ..)) List.not_mem_nil
 | x :: l, [], _, _, h => absurd ((h x).1 (List.mem_cons_self ..)) List.not_mem_nil
 | x :: l, y :: m, hl, hm, h => by
  have h1 := List.pairwise_cons.1 hl;have h2 := List.pairwise_cons.1 hm;have e : x = y := by
   rcases List.mem_cons.1 ((h x).1 (List.mem_cons_self ..)) with e | e
   ·exact e
   ·rcases List.mem_cons.1 ((h y).2 (List.mem_cons_self ..)) with g | g
    ·exact g.symm
    ·have := h1.1 y g; have := h2.1 x e; omega
  subst e;rw [asc_ext h1.2 h2.2 fun z => ?_]
  constructor
  ·intro hz
   rcases List.mem_cons.1 ((h z).1 (List.mem_cons_of_mem _ hz)) with e | e
   ·subst e; exact absurd (h1.1 z hz) (by omega)
   ·exact e
  ·intro hz
   rcases List.mem_cons.1 ((h z).2 (List.mem_cons_of_mem _ hz)) with e | e
   ·subst e; exact absurd (h2.1 z hz) (by omega)
   ·exact e
theorem set_ext {l m : List Int} : Lib.compact (sortI l) = Lib.compact (sortI m) ↔ ∀ x, x ∈ l ↔ x ∈ m := by
 constructor
 ·intro h x; rw [← set_mem (l := l), h, set_mem]
 ·intro h; exact asc_ext (set_asc l) (set_asc m) fun x => by rw [set_mem, set_mem]; exact h x
def cdE (N : Nat) (p : List Int) (e : Ed) : Int := e.2.1 * (N : Int) + (p[e.2.2.toNat]?).getD 0
def cdL (es : List Ed) (N : Nat) (p : List Int) (k : Nat) : List Int := (es.filter fun e => decide (e.1 = (k : Int))).map (cdE N p)
def keyR (es : List Ed) (N : Nat) (p : List Int) (k : Nat) : List Int := (p[k]?).getD 0 :: Lib.compact (sortI (cdL es N p k))
def keysR (es : List Ed) (N : Nat) (p : List Int) : List (List Int) := (List.range N).map (keyR es N p)
def refF (es : List Ed) (N : Nat) (p : List Int) : List Int := nkF (keysR es N p)
def canS (es : List Ed) (p : List Int) (k : Nat) (l b : Int) : Prop := ∃ e, e ∈ es ∧ e.1 = (k : Int) ∧ e.2.1 = l ∧ p[e.2.2.toNat]? = some b
def EdIn (N : Nat) (es : List Ed) : Prop := ∀ e, e ∈ es → (0 ≤ e.1 ∧ e.1 < (N : Int)) ∧ 0 ≤ e.2.1 ∧ 0 ≤ e.2.2 ∧ e.2.2 < (N : Int)
structure PartN (N : Nat) (p : List Int) : Prop where
 len : p.length = N
 norm : normF p = p
section
variable {es : List Ed} {N : Nat} {p q : List Int}
theorem firsts_len_le (L l : List Int) : (firsts L l).length ≤ L.length + l.length := by
 induction l generalizing L with
 | nil => exact zR
 | cons x l ih =>
  unfold firsts;refine Nat.le_trans (ih _) ?_;rw [List.length_cons]
  split
  ·omega
  ·rw [List.length_append, List.length_singleton]; omega
theorem PartN.range (h : PartN N p) : ∀ x, x ∈ p → 0 ≤ x ∧ x < (N : Int) := fun x hx => by
 rw [← h.norm] at hx;unfold normF at hx;obtain ⟨y, hy, rfl⟩ := List.mem_map.1 hx;have h1 := List.idxOf_lt_length_of_mem (firsts_mem.2 (.inr hy) : y ∈ firsts [] p);have h2 := firsts_len_le [] p;rw [h.len] at h2;simp only [List.length_nil] at h2;omega
theorem refF_part (es : List Ed) (N : Nat) (p : List Int) : PartN N (refF es N p) := ⟨by unfold refF; rw [nkF_len]; simp [keysR], nkF_norm _⟩
theorem cd_inj {a b c d : Int} (hN : 0 ≤ b ∧ b < (N : Int)) (hM : 0 ≤ d ∧ d < (N : Int)) (h : a * (N : Int) + b = c * (N : Int) + d) : a = c ∧ b = d := by
 have h1 : (a * (N : Int) + b) / (N : Int) = a := by rw [Int.add_comm, Int.add_mul_ediv_right _ _ (by omega), Int.ediv_eq_zero_of_lt hN.1 hN.2]; omega
 have h2 : (c * (N : Int) + d) / (N : Int) = c := by rw [Int.add_comm, Int.add_mul_ediv_right _ _ (by omega), Int.ediv_eq_zero_of_lt hM.1 hM.2]; omega
 have e : a = c := by rw [← h1, ← h2, h]
 subst e;exact ⟨rfl, by omega⟩
theorem to_get (he : EdIn N es) (hp : p.length = N) {e : Ed} (h : e ∈ es) : ∃ b, p[e.2.2.toNat]? = some b := by
 have := he e h;exact ⟨_, List.getElem?_eq_getElem (by omega)⟩
theorem cdL_mem (he : EdIn N es) (hp : p.length = N) {k : Nat} {c : Int} : c ∈ cdL es N p k ↔ ∃ l b, canS es p k l b ∧ c = l * (N : Int) + b := by
 unfold cdL;rw [List.mem_map]
 constructor
 ·rintro ⟨e, h1, rfl⟩
  obtain ⟨h1, h2⟩ := List.mem_filter.1 h1;obtain ⟨b, hb⟩ := to_get he hp h1;exact ⟨e.2.1, b, ⟨e, h1, of_decide_eq_true h2, rfl, hb⟩, by unfold cdE; rw [hb]; rfl⟩
 ·rintro ⟨l, b, ⟨e, h1, h2, rfl, hb⟩, rfl⟩
  exact ⟨e, List.mem_filter.2 ⟨h1, decide_eq_true h2⟩, by unfold cdE; rw [hb]; rfl⟩
theorem ref_same (he : EdIn N es) (hp : p.length = N) (hr : ∀ x, x ∈ p → 0 ≤ x ∧ x < (N : Int)) {i j : Nat} (hi : i < N) (hj : j < N) : sameB (refF es N p) i j ↔ sameB p i j ∧ ∀ l b, canS es p i l b ↔ canS es p j l b := by
 have hk : (keysR es N p).length = N := by simp [keysR]
 unfold refF;rw [nk_same (by omega) (by omega)];unfold keysR;rw [List.getElem?_map, List.getElem?_map, List.getElem?_range hi, List.getElem?_range hj];simp only [Option.map_some, Option.some.injEq];unfold keyR;rw [List.cons.injEq, set_ext];have e1 : (p[i]?).getD 0 = (p[j]?).getD 0 ↔ sameB p i j := by
  unfold sameB;rw [List.getElem?_eq_getElem (by omega), List.getElem?_eq_getElem (by omega)]
  simp
 have hin : ∀ {k : Nat} {l b : Int}, canS es p k l b → 0 ≤ b ∧ b < (N : Int) := fun ⟨e, _, _, _, hb⟩ => hr _ (List.mem_of_getElem? hb)
 rw [e1];refine and_congr_right fun _ => ?_
 constructor
 ·intro h l b
  have := h (l * (N : Int) + b);rw [cdL_mem he hp, cdL_mem he hp] at this
  constructor
  ·intro g
   obtain ⟨l2, b2, g2, e⟩ := this.1 ⟨l, b, g, rfl⟩;obtain ⟨rfl, rfl⟩ := cd_inj (hin g) (hin g2) e;exact g2
  ·intro g
   obtain ⟨l2, b2, g2, e⟩ := this.2 ⟨l, b, g, rfl⟩;obtain ⟨rfl, rfl⟩ := cd_inj (hin g) (hin g2) e;exact g2
 ·intro h c
  rw [cdL_mem he hp, cdL_mem he hp]
  constructor
  ·rintro ⟨l, b, g, e⟩; exact ⟨l, b, (h l b).1 g, e⟩
  ·rintro ⟨l, b, g, e⟩; exact ⟨l, b, (h l b).2 g, e⟩
theorem part_ext (h : PartN N p) (g : PartN N q) (hs : ∀ i j, i < N → j < N → (sameB p i j ↔ sameB q i j)) : p = q := by
 rw [← h.norm, ← g.norm];exact normF_ext (by rw [h.len, g.len]) fun i j hi hj => hs i j (by rw [h.len] at hi; exact hi) (by rw [h.len] at hj; exact hj)
end
def zeroP (N : Nat) : List Int := List.replicate N 0
def rndP (es : List Ed) (N : Nat) : Nat → List Int
 | 0 => zeroP N
 | n + 1 => refF es N (rndP es N n)
theorem zeroP_part (N : Nat) : PartN N (zeroP N) := by
 refine ⟨by simp [zeroP], ?_⟩;unfold normF zeroP;rw [List.map_replicate]
 congr 1
 cases N with
 | zero => rfl
 | succ n =>
  have : (0 : Int) ∈ firsts [] (List.replicate (n + 1) (0 : Int)) := firsts_mem.2 (.inr (by simp));have h0 : firsts [] (List.replicate (n + 1) (0 : Int)) = [0] := by
   show firsts (if (0 : Int) ∈ ([] : List Int) then [] else [] ++ [0]) (List.replicate n 0) = [0]
   rw [if_neg (by simp)]
   show firsts [0] (List.replicate n 0) = [0]
   induction n with
   | zero => rfl
   | succ n ih =>
    show firsts (if (0 : Int) ∈ ([0] : List Int) then [0] else [0] ++ [0]) (List.replicate n 0) = [0]
    rw [if_pos (by simp)];exact ih (firsts_mem.2 (.inr (by simp)))
  rw [h0]; rfl
section
variable {es : List Ed} {N : Nat}
theorem rnd_part (n : Nat) : PartN N (rndP es N n) := by
 cases n with
 | zero => exact zeroP_part N
 | succ n => exact refF_part _ _ _
theorem rnd_same (he : EdIn N es) {n i j : Nat} (hi : i < N) (hj : j < N) : sameB (rndP es N (n + 1)) i j ↔ sameB (rndP es N n) i j ∧ ∀ l b, canS es (rndP es N n) i l b ↔ canS es (rndP es N n) j l b :=
 ref_same he (rnd_part n).len (rnd_part n).range hi hj
theorem rnd_zero {i j : Nat} (hi : i < N) (hj : j < N) : sameB (rndP es N 0) i j := by
 unfold sameB rndP zeroP;rw [List.getElem?_replicate, List.getElem?_replicate, if_pos hi, if_pos hj]
def numB (p : List Int) : Nat := (firsts [] p).length
theorem firsts_of_norm {p : List Int} (h : normF p = p) : firsts [] p = selfL (numB p) := by
 have := firsts_norm p;rw [h] at this;exact this
theorem numB_le (p : List Int) : numB p ≤ p.length := by have := firsts_len_le [] p; simp only [List.length_nil] at this; unfold numB; omega
theorem firsts_nd (p : List Int) : (firsts [] p).Nodup := firsts_nodup List.nodup_nil
theorem sub_erase {L M : List Int} {x : Int} (hn : (x :: L).Nodup) (h : ∀ y, y ∈ x :: L → y ∈ M) : ∀ y, y ∈ L → y ∈ M.erase x := fun y hy => by
 have hne : y ≠ x := fun e => (List.nodup_cons.1 hn).1 (e ▸ hy)
 exact (List.mem_erase_of_ne hne).2 (h y (List.mem_cons_of_mem _ hy))
theorem sub_len : ∀ {L M : List Int}, L.Nodup → (∀ y, y ∈ L → y ∈ M) → L.length ≤ M.length
 | [], M, _, _ => Nat.zero_le _
 | x :: L, M, hn, h => by
  have h1 := sub_len (List.nodup_cons.1 hn).2 (sub_erase hn h);have hx := h x (List.mem_cons_self ..);rw [List.length_erase_of_mem hx] at h1;have := List.length_pos_of_mem hx;rw [List.length_cons]; omega
theorem sub_perm : ∀ {L M : List Int}, L.Nodup → (∀ y, y ∈ L → y ∈ M) → M.length ≤ L.length → L.Perm M
 | [], M, _, _, hl => by rw [List.length_eq_zero_iff.1 (Nat.le_zero.1 hl)]
 | x :: L, M, hn, h, hl => by
  have hx := h x (List.mem_cons_self ..);have := sub_perm (List.nodup_cons.1 hn).2 (sub_erase hn h) (by rw [List.length_erase_of_mem hx]; rw [List.length_cons] at hl; omega);exact (this.cons x).trans (List.perm_cons_erase hx).symm
theorem numB_fine {p q : List Int} (hl : p.length = q.length) (hf : ∀ i j, i < p.length → j < p.length → sameB q i j → sameB p i j) : numB p ≤ numB q ∧ (numB p = numB q → ∀ i j, i < p.length → j < p.length → sameB p i j → sameB q i j) := by
 -- each block of q lies in one of p: the map from q's numbers to p's is onto
 let f : Int → Int := fun x => (p[q.idxOf x]?).getD 0
 have hfx : ∀ i, i < p.length → ∀ x, q[i]? = some x → p[i]? = some (f x) := by
  intro i hi x hx;have hxi := List.getElem?_eq_some_iff.1 hx;have hm : x ∈ q := List.mem_of_getElem? hx;have hlt := List.idxOf_lt_length_of_mem hm;have hs : sameB q (q.idxOf x) i := by
   unfold sameB;rw [hx, List.getElem?_eq_getElem hlt];exact congrArg some (List.getElem_idxOf hlt)
  have := hf _ _ (by omega) hi hs;unfold sameB at this
  show p[i]? = some ((p[q.idxOf x]?).getD 0)
  rw [← this, List.getElem?_eq_getElem (show q.idxOf x < p.length by omega)]
  rfl
 have hsub : ∀ y, y ∈ firsts [] p → y ∈ (firsts [] q).map f := by
  intro y hy;have hy := (firsts_mem.1 hy).resolve_left List.not_mem_nil;obtain ⟨i, hi, rfl⟩ := List.getElem_of_mem hy;have hq : q[i]? = some (q[i]'(by omega)) := List.getElem?_eq_getElem (by omega);have := hfx i hi _ hq;rw [List.getElem?_eq_getElem hi] at this;injection this with this;rw [this];exact List.mem_map_of_mem (firsts_mem.2 (.inr (List.mem_of_getElem? hq)))
 have hle : (firsts [] p).length ≤ ((firsts [] q).map f).length := sub_len (firsts_nd p) hsub;rw [List.length_map] at hle;refine ⟨hle, fun he i j hi hj hs => ?_⟩;have hperm : (firsts [] p).Perm ((firsts [] q).map f) := sub_perm (firsts_nd p) hsub (by rw [List.length_map]; exact Nat.le_of_eq he.symm);have hnd : ((firsts [] q).map f).Nodup := hperm.nodup_iff.1 (firsts_nd p);have h1 : q[i]? = some (q[i]'(by omega)) := List.getElem?_eq_getElem (by omega);have h2 : q[j]? = some (q[j]'(by omega)) := List.getElem?_eq_getElem (by omega);have e1 := hfx i hi _ h1;have e2 := hfx j hj _ h2;unfold sameB at hs;rw [e1, e2] at hs;injection hs with hs;have m1 : (q[i]'(by omega)) ∈ firsts [] q := firsts_mem.2 (.inr (List.mem_of_getElem? h1));have m2 : (q[j]'(by omega)) ∈ firsts [] q := firsts_mem.2 (.inr (List.mem_of_getElem? h2));unfold sameB;rw [h1, h2]
 congr 1
 obtain ⟨a, ha, ea⟩ := List.getElem_of_mem m1;obtain ⟨b, hb, eb⟩ := List.getElem_of_mem m2;have hab := (List.getElem_inj (h₀ := show a < ((firsts [] q).map f).length by rw [List.length_map]; exact ha) (h₁ := show b < ((firsts [] q).map f).length by rw [List.length_map]; exact hb) hnd).1 (by rw [List.getElem_map, List.getElem_map, ea, eb]; exact hs);subst hab;rw [← ea, ← eb]
theorem numB_ref (he : EdIn N es) {n : Nat} (hne : rndP es N (n + 1) ≠ rndP es N n) : numB (rndP es N n) < numB (rndP es N (n + 1)) := by
 have hl : (rndP es N n).length = (rndP es N (n + 1)).length := by rw [(rnd_part n).len, (rnd_part (n + 1)).len]
 obtain ⟨h1, h2⟩ := numB_fine hl fun i j hi hj h => ((rnd_same he (by rw [(rnd_part n).len] at hi; exact hi) (by rw [(rnd_part n).len] at hj; exact hj)).1 h).1
 by_cases e : numB (rndP es N n) = numB (rndP es N (n + 1))
 ·refine absurd (part_ext (rnd_part (n + 1)) (rnd_part n) fun i j hi hj => ⟨fun h => ((rnd_same he hi hj).1 h).1, fun h => h2 e i j (by rw [(rnd_part n).len]; exact hi) (by rw [(rnd_part n).len]; exact hj) h⟩) hne
 ·omega
theorem rnd_many (he : EdIn N es) (hN : 1 ≤ N) {n : Nat} (h : ∀ m, m < n → rndP es N (m + 1) ≠ rndP es N m) : n + 1 ≤ numB (rndP es N n) := by
 induction n with
 | zero =>
  have hm : (0 : Int) ∈ firsts [] (rndP es N 0) := firsts_mem.2 (.inr (by unfold rndP zeroP; exact List.mem_replicate.2 ⟨by omega, rfl⟩));have := List.length_pos_of_mem hm;unfold numB; omega
 | succ n ih =>
  have h1 := ih fun m hm => h m (by omega)
  have h2 := numB_ref he (h n (by omega));omega
theorem rnd_bound (he : EdIn N es) (hN : 1 ≤ N) {n : Nat} (h : ∀ m, m < n → rndP es N (m + 1) ≠ rndP es N m) : n + 1 ≤ N := by
 have h1 := rnd_many he hN h;have h2 := numB_le (rndP es N n);rw [(rnd_part n).len] at h2;omega
def LastR (es : List Ed) (N r : Nat) : Prop := rndP es N (r + 1) = rndP es N r ∧ ∀ m, m < r → rndP es N (m + 1) ≠ rndP es N m
end
end Go.Proofs.YtnhomkmfbngmgaaGreatDoor
