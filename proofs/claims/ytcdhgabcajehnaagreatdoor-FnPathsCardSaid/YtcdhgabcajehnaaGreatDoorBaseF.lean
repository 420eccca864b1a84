/-
  Several texts in one:
  A drawn transition system, by the reference: valid and small. Conditions: fewer than 10^9 choices.
  A region that draws its order and ends in a store to a cell that it loads: reads are taken first, what is known of the world need not hold behind the last store. Conditions: none.
  A drawn transition system with many internal edges, by the reference: valid and small. Conditions: fewer than 10^9 choices.
  A shortest path to a state, by the program. Conditions: systems of at most 40 states.
  Partitions as lists of block numbers in the order of first occurrence; the lattice of partitions: plain. Conditions: none.
  The shelf's contracts of Contains, Compact and Sort at []int64, in plain words (printed by wip/shelf2.py with the kit's lay-plain). Conditions: sizes.
  slices.Sort and slices.Compact at []int64, on a slice of the call's own. Conditions: sizes.
  Partitions of states refined by what the states can do, round after round: plain. Conditions: none.
  A valid system as an argument, boxed or not; the program's test of validity on it. Conditions: sizes.
-/
import Derived.Test.YtcdhgabcajehnaaGreatDoorBaseA
import Derived.Test.YtcdhgabcajehnaaGreatDoorBaseB
import Derived.Test.YtcdhgabcajehnaaGreatDoorBaseC
import Derived.Test.YtcdhgabcajehnaaGreatDoorBaseD
import Derived.Test.YtcdhgabcajehnaaGreatDoorBaseE
import Derived.StillTail
import Derived.OrdersHeld
import Derived.Deep.RegionHeld3
import Derived.Ground.SlgnProg
import Derived.Ground.SlgmProg
import Derived.Shelf.SlicesG.Turned
import Derived.Shelf.SlicesG.SearchI
import Derived.Shelf.SlicesG.CompactI
import Derived.Shelf.SlicesG.Cells
import Derived.Shelf.SortM.Plain
import Derived.Shelf.SortM.SortNone
import Derived.Shelf.SlGeneric
import Derived.Test.YtcdhgabcajehnaaGreatDoorProg
set_option linter.unusedSimpArgs false
set_option linter.unusedVariables false
namespace Go.Proofs.YtcdhgabcajehnaaGreatDoor
open Go.ChangeShapes Go.WideShapes Go.ChangeAt Go.RowKit
set_option linter.unusedVariables false
set_option linter.unusedSimpArgs false

/-- Four cells of a result. -/
def put4 (w : World) (g : Nat) (v0 v1 v2 v3 : Value) : World := (((w.setCell ⟨g, 0, none⟩ v0).setCell ⟨g, 1, none⟩ v1).setCell ⟨g, 2, none⟩ v2).setCell ⟨g, 3, none⟩ v3
theorem put4_other (w : World) (g : Nat) (v0 v1 v2 v3 : Value) {q : Nat} (h : q ≠ g) : (put4 w g v0 v1 v2 v3).heap[q]? = w.heap[q]? := by
  unfold put4
  rw [Below.heap_setCell _ _ _ _ h, Below.heap_setCell _ _ _ _ h, Below.heap_setCell _ _ _ _ h, Below.heap_setCell _ _ _ _ h]
theorem put4_size (w : World) (g : Nat) (v0 v1 v2 v3 : Value) : (put4 w g v0 v1 v2 v3).heap.size = w.heap.size := by unfold put4; simp
theorem put4_only {lo hi g : Nat} {a w : World} (h : Only lo hi a w) (hg : a.heap.size ≤ g) (v0 v1 v2 v3 : Value) : Only lo hi a (put4 w g v0 v1 v2 v3) :=
  (((h.setNew (p := ⟨g, 0, none⟩) hg v0).setNew (p := ⟨g, 1, none⟩) hg v1).setNew (p := ⟨g, 2, none⟩) hg v2).setNew (p := ⟨g, 3, none⟩) hg v3

/-- A drawn system: at most K labels, M edges, Q choices. -/
def DrawnG (K M Q b N : Nat) (w : World) (e : Ending) (w' : World) : Prop := ∃ (st ini : Nat) (A : Option Addr) (n c : Nat) (B : Option Addr) (m d : Nat) (ts : List ByteArray) (es : List Ed),
  e = .returned (.agg #[.int .i64 (st : Int), .int .i64 (ini : Int), .slice A n c, .slice B m d]) ∧ SlS w' w.heap.size w'.heap.size A n (joiF ts) ∧ SlE w' w.heap.size w'.heap.size B m es ∧
  ltsV ((st : Int), (ini : Int), joiF ts, es) = true ∧ st ≤ 7 ∧ es.length ≤ M ∧ n ≤ K ∧ NamD ts ∧ SrcW w' b (N + Q) ∧ Only b (b + 1) w w'

/-- Kinds of states below nb; the first ones are their own. -/
def KindO (nb : Nat) (l : List Int) : Prop := (∀ j : Nat, j < nb → j < l.length → l[j]? = some (j : Int)) ∧ ∀ x, x ∈ l → 0 ≤ x ∧ x < (nb : Int)
theorem KindO.start (nb : Nat) : KindO nb [] := ⟨fun j _ h => absurd h (by simp), fun x h => absurd h List.not_mem_nil⟩
theorem KindO.app {nb : Nat} {l : List Int} (h : KindO nb l) {x : Int} (hx : 0 ≤ x ∧ x < (nb : Int)) (hk : l.length < nb → x = (l.length : Int)) : KindO nb (l ++ [x]) := by
  refine ⟨fun j hj hl => ?_, fun y hy => ?_⟩
  · rw [List.length_append, List.length_singleton] at hl
    by_cases e : j < l.length
    · rw [List.getElem?_append_left e]; exact h.1 j hj e
    · obtain rfl : j = l.length := by omega
      rw [List.getElem?_append_right (Nat.le_refl _), Nat.sub_self, hk hj]
      rfl
  · rcases List.mem_append.1 hy with g | g
    · exact h.2 y g
    · rw [List.mem_singleton.1 g]; exact hx
def EdD (st m : Nat) (es : List Ed) : Prop := ∀ e, e ∈ es → (0 ≤ e.1 ∧ e.1 < (st : Int)) ∧ (0 ≤ e.2.1 ∧ e.2.1 < (m : Int)) ∧ 0 ≤ e.2.2 ∧ e.2.2 < (st : Int)
theorem EdD.start (st m : Nat) : EdD st m [] := fun e h => absurd h List.not_mem_nil
theorem EdD.app {st m : Nat} {es : List Ed} (h : EdD st m es) {f l t : Int} (h1 : 0 ≤ f ∧ f < (st : Int)) (h2 : 0 ≤ l ∧ l < (m : Int)) (h3 : 0 ≤ t ∧ t < (st : Int)) : EdD st m (es ++ [(f, l, t)]) := fun e he => by
  rcases List.mem_append.1 he with g | g
  · exact h e g
  · rw [List.mem_singleton.1 g]; exact ⟨h1, h2, h3⟩
theorem joi_len (ts : List ByteArray) : (joiF ts).length ≤ ts.length + 1 := by
  unfold joiF
  rw [List.length_map]
  refine Nat.le_trans (Go.Lib.compact_length_le _) ?_
  rw [List.length_mergeSort, List.length_map, List.length_cons]
  exact Nat.le_refl _

set_option maxRecDepth 100000 in
set_option maxHeartbeats 6400000 in
theorem l11DrawOk_calls (b N : Nat) (w : World) (h : SrcW w b N) (hN : N ≤ 700000000) :
    Calls Tryz.prog 58 #[.pointer (some ⟨b, 0, none⟩)] w (DrawnG 6 60 1000 b N w) := by
  have hEi := hide elem_int
  have hEe := hide elem_edge
  have hbl := h.lt
  have hon0 := (Only.refl b (b + 1) w).alloc' (.cells #[.int .i64 0, .int .i64 0, .slice none 0 0, .slice none 0 0] 27)
  have k8 := heap_alloc_new w (.cells #[.int .i64 0, .int .i64 0, .slice none 0 0, .slice none 0 0] 27)
  have hS0 := h.alloc (.cells #[.int .i64 0, .int .i64 0, .slice none 0 0, .slice none 0 0] 27)
  have hz0 : w.heap.size < (w.alloc (.cells #[.int .i64 0, .int .i64 0, .slice none 0 0, .slice none 0 0] 27)).heap.size := by simp
  obtain ⟨wA, hwA⟩ : ∃ wA, wA = w.alloc (.cells #[.int .i64 0, .int .i64 0, .slice none 0 0, .slice none 0 0] 27) := ⟨_, rfl⟩
  rw [← hwA] at hon0 k8 hS0 hz0
  have q1 := hide (pick_calls b N 4 wA hS0 (by omega))
  replace hon0 := hide hon0
  replace k8 := hide k8
  clear h hS0
  go_enter Tryz.func58, Tryz.ntmps58
  go_upto_region 1 with fail
  rw [← hwA]
  replace hwA := hide hwA
  go_wp2_with fail
  refine q1.out.mono ?_
  rintro e w1 ⟨x, rfl, x0, x1, hs1⟩
  obtain ⟨nb, hnb⟩ : ∃ nb : Nat, 1 + x = (nb : Int) := ⟨(1 + x).toNat, by omega⟩
  have hnb1 : 1 ≤ nb ∧ nb ≤ 4 := by omega
  have q2 := hide (pick_calls b (N + 2) (7 - (nb : Int)) w1 hs1.src (by omega))
  replace hs1 := hide hs1
  clear q1 x0 x1
  go_wp2_with fail
  refine q2.out.mono ?_
  rintro e w2 ⟨y, rfl, y0, y1, hs2⟩
  clear hnb
  obtain ⟨st, hst⟩ : ∃ st : Nat, (nb : Int) + y = (st : Int) := ⟨((nb : Int) + y).toNat, by omega⟩
  have hst1 : nb ≤ st ∧ st ≤ 6 := by omega
  have q3 := hide (l11DrawNames_calls b (N + 2 + 2) w2 hs2.src (by omega))
  have hz2 : wA.heap.size = w2.heap.size := by have := hs1.out.size; have := hs2.size; omega
  have hon2 := hide (hs1.out.only.trans' hs2.only)
  replace hz2 := hide hz2
  clear q2 y0 y1 hs1 hs2
  go_wp2_with fail
  refine q3.out.mono ?_
  rintro e w3 ⟨A, n, c, ts, rfl, hT, hn2, hn5, hD, hs3, hon3⟩
  clear hst
  have hT1 := hide (hT.below ((Below.refl w3.heap.size w3).alloc (Nat.le_refl _) (.cells #[] 2)) (.inr (Nat.le_refl _)))
  have hlT := hide hT.len
  have hO0 : Hid (Own 1 iv (w3.alloc (.cells #[] 2)) w3.heap.size 2 (some ⟨w3.heap.size, 0, none⟩) 0 0 ([] : List Int)) := Own.made (α := Int) (size := 1) (f := iv) w3 2 (Nat.le_refl _)
  have hs4 := hide (hs3.alloc (.cells #[] 2))
  have hon4 := hide ((Only.refl b (b + 1) w3).alloc' (.cells #[] 2))
  have hon30 := hide (hon2.out.trans' hon3)
  have hz3 : w2.heap.size ≤ w3.heap.size := hon3.size
  replace hT := hide hT
  replace hD := hide hD
  obtain ⟨hnb0, hnb4⟩ := hnb1
  obtain ⟨hst0, hst6⟩ := hst1
  have hbl3 : b < w3.heap.size := hs3.lt
  have hbl2 : b < w2.heap.size := by have := hz2.out; omega
  clear q3 hon2 hs3 hon3
  go_wp2_with fail
  go_loopw [6, 7] (fun o i wr => ∃ (k : Nat) (K : Option Addr) (kc : Nat) (l : List Int), k ≤ st ∧ i = .int .i64 (k : Nat) ∧ o = .slice K k kc ∧ Hid (Own 1 iv wr w3.heap.size 2 K k kc l) ∧ Hid (KindO nb l) ∧ Hid (SrcW wr b (N + 14 + 2 * k)) ∧ Hid (Only b (b + 1) w3 wr)) (fun _ i _ => st - (intOf i).toNat)
  case atStart => exact ⟨0, _, 0, [], Nat.zero_le _, rfl, rfl, hO0.out, KindO.start nb, hs4.out, hon4.out⟩
  case round =>
    clear hO0 hs4 hon4 hT1
    obtain ⟨k, K, kc, l, hk, rfl, rfl, hO, hK, hS, hon⟩ := hrel
    have hzr := hon.out.size
    have hll : l.length = k := hO.out.len
    by_cases hlt : k < st
    · have k1 : (k : Int) < (st : Int) := by omega
      by_cases hkb : k < nb
      · have k2 : (k : Int) < (nb : Int) := by omega
        have hza : w3.heap.size ≤ (wr.alloc (.cells #[.int .i64 (k : Int)] 2)).heap.size := by rw [World.size_alloc]; omega
        have hOa := hide (hO.out.alloc (.cells #[.int .i64 (k : Int)] 2))
        have hSa := hide (hS.out.alloc (.cells #[.int .i64 (k : Int)] 2))
        have hona := hide (hon.out.alloc' (.cells #[.int .i64 (k : Int)] 2))
        have hrow := hide (fun q (e : (Value.slice K k kc).ownBlock = some q) => (hOa.out.lt q e).1)
        have hK2 := hide (hK.out.app (x := (k : Int)) (by omega) (fun _ => by omega))
        clear hO hS hon hll hzr
        go_wp2_with (first | (at_builtin; (with_reducible refine wpList_app rfl (.tmp 36) (.tmp 38) rfl hEi.out flat_iv rfl hOa.out rfl (Sl.lit1' wr 2 (k : Int) _ rfl 1 _ ?d0) ?d1 hza ?_); rotate_right; intro A6 c6 w6 hown6 hgr6 hb6 hat6))
        case d0 => rfl
        case d1 => omega
        have hS6 := hide ((hSa.out.grow hgr6 (fun q e => by have := hrow.out q e; omega)).more (show N + 14 + 2 * k ≤ N + 14 + 2 * (k + 1) by omega))
        have hon6 := hide (hona.out.grow hgr6 (fun q e => hrow.out q e))
        replace hown6 := hide hown6
        clear hgr6 hb6 hat6 hOa hSa hona hrow
        go_wp2_with fail
        go_roundw
        case rel => exact ⟨k + 1, A6, c6, _, by omega, by go_num, rfl, hown6.out, hK2.out, hS6.out, hon6.out⟩
        case measure => simp [intOf]; omega
      · have k2 : ¬ (k : Int) < (nb : Int) := by omega
        have q := hide (pick_calls b (N + 14 + 2 * k) (nb : Int) wr hS.out (by omega))
        go_wp2_with fail
        refine q.out.mono ?_
        rintro e w5 ⟨z, rfl, z0, z1, hs5⟩
        have hO5 := hide (hO.out.keep (w' := w5) fun g e => hs5.only.block g (hO.out.lt g e).2 (by have := (hO.out.lt g e).1; omega))
        have hon5 := hide (hon.out.trans' hs5.only)
        have hz5 := hs5.size
        have hza : w3.heap.size ≤ (w5.alloc (.cells #[.int .i64 z] 2)).heap.size := by rw [World.size_alloc]; omega
        have hOa := hide (hO5.out.alloc (.cells #[.int .i64 z] 2))
        have hSa := hide (hs5.src.alloc (.cells #[.int .i64 z] 2))
        have hona := hide (hon5.out.alloc' (.cells #[.int .i64 z] 2))
        have hrow := hide (fun q (e : (Value.slice K k kc).ownBlock = some q) => (hOa.out.lt q e).1)
        have hK2 := hide (hK.out.app (x := z) (by omega) (fun h => by omega))
        clear hO hS hon hll hzr hz5 hO5 hon5 hs5 q z0 z1
        go_wp2_with (first | (at_builtin; (with_reducible refine wpList_app rfl (.tmp 40) (.tmp 44) rfl hEi.out flat_iv rfl hOa.out rfl (Sl.lit1' w5 2 z _ rfl 1 _ ?d0) ?d1 hza ?_); rotate_right; intro A6 c6 w6 hown6 hgr6 hb6 hat6))
        case d0 => rfl
        case d1 => omega
        have hS6 := hide ((hSa.out.grow hgr6 (fun q e => by have := hrow.out q e; omega)).more (show N + 14 + 2 * k + 2 ≤ N + 14 + 2 * (k + 1) by omega))
        have hon6 := hide (hona.out.grow hgr6 (fun q e => hrow.out q e))
        replace hown6 := hide hown6
        clear hgr6 hb6 hat6 hOa hSa hona hrow
        go_wp2_with fail
        go_roundw
        case rel => exact ⟨k + 1, A6, c6, _, by omega, by go_num, rfl, hown6.out, hK2.out, hS6.out, hon6.out⟩
        case measure => simp [intOf]; omega
    · obtain rfl : k = st := by omega
      have k1 : ¬ (k : Int) < (k : Int) := by omega
      obtain ⟨wK, rfl⟩ : ∃ wK : World, wK = wr := ⟨_, rfl⟩
      have hKs := hide (hO.out.sl flat_iv)
      have hE0 : Hid (Own 3 ev (wK.alloc (.cells #[] 70)) wK.heap.size 70 (some ⟨wK.heap.size, 0, none⟩) 0 0 ([] : List Ed)) := Own.made (α := Ed) (size := 3) (f := ev) wK 70 (Nat.le_refl _)
      have hSe := hide (hS.out.alloc (.cells #[] 70))
      have hone := hide ((Only.refl b (b + 1) wK).alloc' (.cells #[] 70))
      have hTK := hide (hT.out.only hon.out (.inr (by have := hzr; have := hbl; omega)))
      have q4 := hide (pick_calls b _ (2 + 2 * (nb : Int)) (wK.alloc (.cells #[] 70)) hSe.out (by omega))
      clear hS
      go_wp2_with fail
      refine q4.out.mono ?_
      rintro e w6 ⟨r0, rfl, r00, r01, hs6⟩
      obtain ⟨r, rfl⟩ : ∃ r : Nat, r0 = (r : Int) := ⟨r0.toNat, by omega⟩
      have hr9 : r ≤ 9 := by omega
      have hE6 := hide (hE0.out.keep (w' := w6) fun g e => hs6.only.block g (hE0.out.lt g e).2 (by have := (hE0.out.lt g e).1; omega))
      have hon6 := hide (hone.out.trans' hs6.only)
      replace hs6 := hide (hs6.src.more (show N + 14 + 2 * k + 2 ≤ N + 40 + 30 * (9 - r) by omega))
      clear q4 hE0 hSe hone r00 r01
      go_wp2_with fail
      obtain ⟨st, rfl⟩ : ∃ st, st = k := ⟨_, rfl⟩
      obtain ⟨gk, ok, rfl, -⟩ := hKs.out.at_ (by omega)
      have hbK : b < wK.heap.size := by omega
      clear hlt k1 hk hO hlT
      go_loopw [8, 9] (fun v8 v9 wr => ∃ (r mm cc : Nat) (E : Option Addr) (es : List Ed), v9 = .int .i64 (r : Nat) ∧ r ≤ 9 ∧ v8 = .slice E mm cc ∧ mm ≤ 6 * (9 - r) ∧ Hid (Own 3 ev wr wK.heap.size 70 E mm cc es) ∧ Hid (EdD st n es) ∧ Hid (SrcW wr b (N + 40 + 30 * (9 - r))) ∧ Hid (Only b (b + 1) wK wr)) (fun _ v _ => (intOf v).toNat)
      case atStart => exact ⟨r, 0, 0, _, [], rfl, hr9, rfl, Nat.zero_le _, hE6.out, EdD.start _ _, hs6.out, hon6.out⟩
      case round =>
        clear hE6 hs6 hon6 hr9
        obtain ⟨r, mm, cc, E, es, rfl, hr, rfl, hmm, hO, hEd, hS, hon6⟩ := hrel
        by_cases hpos : 0 < r
        · have p1 : (0 : Int) < (r : Int) := by omega
          obtain ⟨NN, hNN⟩ : ∃ NN, N + 40 + 30 * (9 - r) = NN := ⟨_, rfl⟩
          rw [hNN] at hS
          have hNNb : NN ≤ N + 400 := by omega
          replace hNN := hide hNN
          have q5 := hide (pick_calls b NN (nb : Int) wr hS.out (by omega))
          go_wp2_with fail
          refine q5.out.mono ?_
          rintro e w7 ⟨f, rfl, f0, f1, h7⟩
          have q6 := hide (pick_calls b (NN + 2) (n : Int) w7 h7.src (by omega))
          replace h7 := hide h7
          clear q5
          go_wp2_with fail
          refine q6.out.mono ?_
          rintro e w8 ⟨lb, rfl, l0, l1, h8⟩
          have q7 := hide (pick_calls b (NN + 2 + 2) (nb : Int) w8 h8.src (by omega))
          replace h8 := hide (h7.out.trans h8)
          clear q6 h7
          go_wp2_with fail
          refine q7.out.mono ?_
          rintro e w9 ⟨t, rfl, t0, t1, h9⟩
          obtain ⟨tn, rfl⟩ : ∃ tn : Nat, t = (tn : Int) := ⟨t.toNat, by omega⟩
          replace h9 := h8.out.trans h9
          have hO9 := hide (hO.out.keep (w' := w9) fun g e => h9.only.block g (hO.out.lt g e).2 (by have := (hO.out.lt g e).1; omega))
          have hon9 := hide (hon6.out.trans' h9.only)
          have hS9 := hide (h9.src.more (show NN + 2 + 2 + 2 ≤ NN + 6 + 2 * 0 by omega))
          have hlb : 0 ≤ lb ∧ lb < (n : Int) := by omega
          have htn : tn < nb := by omega
          clear q7 h8 h9 hO hS hon6 l0 l1 t0 t1 f0 f1
          go_wp2_with fail
          go_loopw [8, 13] (fun v8 v13 wz => ∃ (j mm2 cc2 : Nat) (E2 : Option Addr) (es2 : List Ed), j ≤ st ∧ v13 = .int .i64 (j : Nat) ∧ v8 = .slice E2 mm2 cc2 ∧ mm2 ≤ mm + j ∧ Hid (Own 3 ev wz wK.heap.size 70 E2 mm2 cc2 es2) ∧ Hid (EdD st n es2) ∧ Hid (SrcW wz b (NN + 6 + 2 * j)) ∧ Hid (Only b (b + 1) wK wz)) (fun _ v _ => st - (intOf v).toNat)
          case atStart => exact ⟨0, mm, cc, E, es, Nat.zero_le _, rfl, rfl, Nat.le_refl _, hO9.out, hEd.out, hS9.out, hon9.out⟩
          case round =>
            clear hO9 hS9 hon9 hEd
            obtain ⟨j, mm2, cc2, E2, es2, hj, rfl, rfl, hmm2, hO, hEd, hS, hon6⟩ := hrel
            by_cases hlt : j < st
            · have j0 : (0 : Int) ≤ (j : Int) := by omega
              have j1 : (j : Int) < (st : Int) := by omega
              obtain ⟨gk2, ok2, y, e1, -, -, -, hy, ck, -⟩ := SlI.get (hKs.out.only hon6.out (.inr (by omega))) hlt
              cases e1
              have hzO := hon6.out.size
              by_cases hyf : y = f
              · obtain rfl : f = y := hyf.symm
                have g1 : (f == f) = true := by simp
                obtain ⟨wO, rfl⟩ : ∃ wO : World, wO = wr := ⟨_, rfl⟩
                have hA0 : Hid (Own 1 iv (wO.alloc (.cells #[] 2)) wO.heap.size 2 (some ⟨wO.heap.size, 0, none⟩) 0 0 ([] : List Int)) := Own.made (α := Int) (size := 1) (f := iv) wO 2 (Nat.le_refl _)
                have hB0 := hide ((Below.refl wO.heap.size wO).alloc (Nat.le_refl _) (.cells #[] 2))
                clear hy
                go_wp2_with fail
                clear ck
                go_loopw [14, 15] (fun v14 v15 wy => ∃ (i an ac : Nat) (AA : Option Addr) (la : List Int), i ≤ st ∧ v15 = .int .i64 (i : Nat) ∧ v14 = .slice AA an ac ∧ an ≤ i ∧ Hid (tn < i → 0 < an) ∧ Hid (Own 1 iv wy wO.heap.size 2 AA an ac la) ∧ Hid (∀ x, x ∈ la → 0 ≤ x ∧ x < (st : Int)) ∧ Hid (Below wO.heap.size wO wy)) (fun _ v _ => st - (intOf v).toNat)
                case atStart => exact ⟨0, 0, 0, _, [], Nat.zero_le _, rfl, rfl, Nat.le_refl _, (fun h => absurd h (by omega)), hA0.out, (fun x h => absurd h List.not_mem_nil), hB0.out⟩
                case round =>
                  clear hA0 hB0
                  obtain ⟨i, an, ac, AA, la, hi, rfl, rfl, han, hne, hA, hla, hB⟩ := hrel
                  by_cases hil : i < st
                  · have i0 : (0 : Int) ≤ (i : Int) := by omega
                    have i1 : (i : Int) < (st : Int) := by omega
                    obtain ⟨gk2, ok2, y, e1, -, -, -, hy, ck, -⟩ := SlI.get ((hKs.out.only hon6.out (.inr (by omega))).below hB.out (.inl hzO)) hil
                    cases e1
                    by_cases hyt : y = (tn : Int)
                    · obtain rfl : (tn : Int) = y := hyt.symm
                      have g2 : ((tn : Int) == (tn : Int)) = true := by simp
                      have hzy := hB.out.size
                      have hza : wO.heap.size ≤ (wr.alloc (.cells #[.int .i64 (i : Int)] 2)).heap.size := by rw [World.size_alloc]; omega
                      have hOa := hide (hA.out.alloc (.cells #[.int .i64 (i : Int)] 2))
                      have hBa := hide (hB.out.alloc hzy (.cells #[.int .i64 (i : Int)] 2))
                      have hrow := hide (fun q (e : (Value.slice AA an ac).ownBlock = some q) => (hOa.out.lt q e).1)
                      have hla2 : Hid (∀ x, x ∈ la ++ [(i : Int)] → 0 ≤ x ∧ x < (st : Int)) := fun x hx => by
                        rcases List.mem_append.1 hx with h | h
                        · exact hla.out x h
                        · rw [List.mem_singleton.1 h]; omega
                      clear hA hB hla hy hzy
                      go_wp2_with (first | (at_builtin; (with_reducible refine wpList_app rfl (.tmp 89) (.tmp 91) rfl hEi.out flat_iv rfl hOa.out rfl (Sl.lit1' wr 2 (i : Int) _ rfl 1 _ ?d0) ?d1 hza ?_); rotate_right; intro A6 c6 w6 hown6 hgr6 hb6 hat6))
                      case d0 => rfl
                      case d1 => omega
                      have hB6 := hide (hBa.out.grown hgr6 (Nat.le_trans (Nat.le_refl _) hBa.out.size) (fun q e => hrow.out q e))
                      replace hown6 := hide hown6
                      clear hgr6 hb6 hat6 hOa hBa hrow ck
                      go_wp2_with fail
                      go_roundw
                      case rel => exact ⟨i + 1, an + 1, c6, A6, _, by omega, by go_num, rfl, by omega, (fun _ => by omega), hown6.out, hla2.out, hB6.out⟩
                      case measure => simp [intOf]; omega
                    · have g2 : (y == (tn : Int)) = false := by rw [beq_eq_false_iff_ne]; exact hyt
                      have hne2 : Hid (tn < i + 1 → 0 < an) := fun h => by
                        by_cases e : tn < i
                        · exact hne.out e
                        · obtain rfl : tn = i := by omega
                          have := hK.out.1 tn htn (List.getElem?_eq_some_iff.1 hy).1
                          rw [hy] at this
                          injection this with this
                          exact absurd this hyt
                      clear hy
                      go_wp2_with fail
                      clear ck
                      go_roundw
                      case rel => exact ⟨i + 1, an, ac, AA, la, by omega, by go_num, rfl, by omega, hne2.out, hA.out, hla.out, hB.out⟩
                      case measure => simp [intOf]; omega
                  · obtain rfl : i = st := by omega
                    have i1 : ¬ (i : Int) < (i : Int) := by omega
                    have hpa : 0 < an := hne.out (by omega)
                    have hls := hide (hA.out.sl flat_iv)
                    have hbO : b < wO.heap.size := by omega
                    have hSy := hide (hS.out.below hB.out hbO)
                    have q8 := hide (among_calls b (NN + 6 + 2 * j) AA an ac la wr _ _ hSy.out (by omega) hls.out (.inr (by omega)) hpa (by omega))
                    have hzy := hB.out.size
                    go_wp2_with fail
                    refine q8.out.mono ?_
                    rintro e w10 ⟨x, rfl, hx, hs10⟩
                    have hxb := hla.out x hx
                    have hO10 := hide (hO.out.keep (w' := w10) fun g e => (hs10.only.block g (Nat.lt_of_lt_of_le (hO.out.lt g e).2 hzy) (by have := (hO.out.lt g e).1; omega)).trans (hB.out.block g (hO.out.lt g e).2))
                    have hon10 := hide ((hon6.out.belowAt hB.out hzO).trans' hs10.only)
                    have hS10 := hide (hs10.src)
                    have hz10 := hon10.out.size
                    have hza : wK.heap.size ≤ (w10.alloc (.cells #[.int .i64 (j : Int), .int .i64 lb, .int .i64 x] 70)).heap.size := by rw [World.size_alloc]; omega
                    have hOa := hide (hO10.out.alloc (.cells #[.int .i64 (j : Int), .int .i64 lb, .int .i64 x] 70))
                    have hSa := hide (hS10.out.alloc (.cells #[.int .i64 (j : Int), .int .i64 lb, .int .i64 x] 70))
                    have hona := hide (hon10.out.alloc' (.cells #[.int .i64 (j : Int), .int .i64 lb, .int .i64 x] 70))
                    have hrow := hide (fun q (e : (Value.slice E2 mm2 cc2).ownBlock = some q) => (hOa.out.lt q e).1)
                    have hEd2 := hide (hEd.out.app (f := (j : Int)) (l := lb) (t := x) (by omega) hlb hxb)
                    clear hO hS hon6 hA hB hla hls hSy q8 hs10 hO10 hon10 hS10 hx hxb hne hz10 hzy
                    go_wp2_with (first | (at_builtin; (with_reducible refine wpList_app rfl (.tmp 93) (.tmp 100) rfl hEe.out flat_ev rfl hOa.out rfl (Sl.lit1' w10 70 ((j : Int), lb, x) _ rfl 3 _ ?d0) ?d1 hza ?_); rotate_right; intro A6 c6 w6 hown6 hgr6 hb6 hat6))
                    case d0 => rfl
                    case d1 => omega
                    have hS6 := hide ((hSa.out.grow hgr6 (fun q e => by have := hrow.out q e; omega)).more (show NN + 6 + 2 * j + 2 ≤ NN + 6 + 2 * (j + 1) by omega))
                    have hon6 := hide (hona.out.grow hgr6 (fun q e => hrow.out q e))
                    replace hown6 := hide hown6
                    clear hgr6 hb6 hat6 hOa hSa hona hrow
                    go_wp2_with fail
                    go_roundw
                    case rel => exact ⟨j + 1, mm2 + 1, c6, A6, _, by omega, by go_num, rfl, by omega, hown6.out, hEd2.out, hS6.out, hon6.out⟩
                    case measure => simp [intOf]; omega
              · have g1 : (y == f) = false := by rw [beq_eq_false_iff_ne]; exact hyf
                have hS2 := hide (hS.out.more (show NN + 6 + 2 * j ≤ NN + 6 + 2 * (j + 1) by omega))
                clear hy
                go_wp2_with fail
                clear ck
                go_roundw
                case rel => exact ⟨j + 1, mm2, cc2, E2, es2, by omega, by go_num, rfl, by omega, hO.out, hEd.out, hS2.out, hon6.out⟩
                case measure => simp [intOf]; omega
            · obtain rfl : j = st := by omega
              have j1 : ¬ (j : Int) < (j : Int) := by omega
              obtain ⟨r2, rfl⟩ : ∃ r2, r = r2 + 1 := ⟨r - 1, by omega⟩
              have hS2 := hide (hS.out.more (show NN + 6 + 2 * j ≤ N + 40 + 30 * (9 - r2) by have := hNN.out; omega))
              go_wp2_with fail
              go_roundw
              case rel => exact ⟨r2, mm2, cc2, E2, es2, by go_num, by omega, rfl, by omega, hO.out, hEd.out, hS2.out, hon6.out⟩
              case measure => simp [intOf]
        · obtain rfl : r = 0 := by omega
          have p1 : ¬ (0 : Int) < ((0 : Nat) : Int) := by omega
          have q9 := hide (one_calls b _ 3 wr hS.out (by omega))
          obtain ⟨wL, rfl⟩ : ∃ wL : World, wL = wr := ⟨_, rfl⟩
          have hzL := hon6.out.size
          go_upto_if 103 with (first | (go_at_call 59; (with_reducible refine q9.out.mono ?_); rintro e w5 ⟨yes, rfl, hs5⟩; replace hs5 := hide hs5))
          go_cut [8] (fun v8 wx => ∃ (mm2 cc2 : Nat) (E2 : Option Addr) (es2 : List Ed), v8 = .slice E2 mm2 cc2 ∧ mm2 ≤ 55 ∧ Hid (Own 3 ev wx wK.heap.size 70 E2 mm2 cc2 es2) ∧ Hid (EdD st n es2) ∧ Hid (SrcW wx b (N + 400)) ∧ Hid (Only b (b + 1) wK wx))
          case first =>
            have hO5 := hide (hO.out.keep (w' := w5) fun g e => hs5.out.only.block g (hO.out.lt g e).2 (by have := (hO.out.lt g e).1; omega))
            have hon5 := hide (hon6.out.trans' hs5.out.only)
            cases yes with
            | false =>
              have hS5 := hide (hs5.out.src.more (show N + 40 + 30 * (9 - 0) + 2 ≤ N + 400 by omega))
              go_wp2_with fail
              go_meet
              exact ⟨mm, cc, E, es, rfl, by omega, hO5.out, hEd.out, hS5.out, hon5.out⟩
            | true =>
              have r1 := hide (pick_calls b _ (st : Int) w5 hs5.out.src (by omega))
              clear hs5 q9
              go_wp2_with fail
              refine r1.out.mono ?_
              rintro e w6 ⟨f, rfl, f0, f1, h6⟩
              have r2 := hide (pick_calls b _ (n : Int) w6 h6.src (by omega))
              replace h6 := hide h6
              clear r1
              go_wp2_with fail
              refine r2.out.mono ?_
              rintro e w7 ⟨lb, rfl, l0, l1, h7⟩
              have r3 := hide (pick_calls b _ (st : Int) w7 h7.src (by omega))
              replace h7 := hide (h6.out.trans h7)
              clear r2 h6
              go_wp2_with fail
              refine r3.out.mono ?_
              rintro e w8 ⟨t, rfl, t0, t1, h8⟩
              replace h8 := h7.out.trans h8
              have hO8 := hide (hO5.out.keep (w' := w8) fun g e => h8.only.block g (hO5.out.lt g e).2 (by have := (hO5.out.lt g e).1; omega))
              have hon8 := hide (hon5.out.trans' h8.only)
              have hS8 := hide (h8.src.more (show N + 40 + 30 * (9 - 0) + 2 + 2 + 2 + 2 ≤ N + 400 by omega))
              have hz8 := hon8.out.size
              have hza : wK.heap.size ≤ (w8.alloc (.cells #[.int .i64 f, .int .i64 lb, .int .i64 t] 70)).heap.size := by rw [World.size_alloc]; omega
              have hOa := hide (hO8.out.alloc (.cells #[.int .i64 f, .int .i64 lb, .int .i64 t] 70))
              have hSa := hide (hS8.out.alloc (.cells #[.int .i64 f, .int .i64 lb, .int .i64 t] 70))
              have hona := hide (hon8.out.alloc' (.cells #[.int .i64 f, .int .i64 lb, .int .i64 t] 70))
              have hrow := hide (fun q (e : (Value.slice E mm cc).ownBlock = some q) => (hOa.out.lt q e).1)
              have hEd2 := hide (hEd.out.app (f := f) (l := lb) (t := t) (by omega) (by omega) (by omega))
              clear r3 h7 h8 hO5 hon5 hO8 hon8 hS8 hz8 hO f0 f1 l0 l1 t0 t1
              go_wp2_with (first | (at_builtin; (with_reducible refine wpList_app rfl (.tmp 104) (.tmp 116) rfl hEe.out flat_ev rfl hOa.out rfl (Sl.lit1' w8 70 (f, lb, t) _ rfl 3 _ ?d0) ?d1 hza ?_); rotate_right; intro A6 c6 w9 hown6 hgr6 hb6 hat6))
              case d0 => rfl
              case d1 => omega
              have hS6 := hide (hSa.out.grow hgr6 (fun q e => by have := hrow.out q e; omega))
              have hon9 := hide (hona.out.grow hgr6 (fun q e => hrow.out q e))
              replace hown6 := hide hown6
              clear hgr6 hb6 hat6 hOa hSa hona hrow
              go_meet
              exact ⟨mm + 1, c6, A6, _, rfl, by omega, hown6.out, hEd2.out, hS6.out, hon9.out⟩
          case rest =>
            clear hO hEd hS hon6 q9
            obtain ⟨mm2, cc2, E2, es2, rfl, hmm2, hO, hEd, hS, honC⟩ := hcut
            have r1 := hide (pick_calls b _ (st : Int) wc hS.out (by omega))
            have hzC := honC.out.size
            go_wp2_with fail
            refine r1.out.mono ?_
            rintro e w6 ⟨ini, rfl, i0, i1, h6⟩
            obtain ⟨ini, rfl⟩ : ∃ k : Nat, ini = (k : Int) := ⟨ini.toNat, by omega⟩
            have hini : ini < st := by omega
            have hon6 := hide (honC.out.trans' h6.only)
            have hz6 := h6.size
            have hO6 := hO.out.keep (w' := w6) fun g e => h6.only.block g (hO.out.lt g e).2 (by have := (hO.out.lt g e).1; omega)
            have hmm := hO6.len
            have r2 := hide (l11Make_calls (st : Int) (ini : Int) A n c ts E2 mm2 cc2 es2 w6 ((hTK.out.only hon6.out (.inr (by omega))).more (Nat.zero_le _) (by omega)) ((hO6.sl flat_ev).more (Nat.zero_le _) (Nat.le_refl _)) (fun e he => (hEd.out e he).2.1) (by omega) (by omega))
            replace h6 := hide h6
            clear r1 hO hS hO6 i0 i1
            go_wp2_with fail
            refine r2.out.mono ?_
            rintro e w7 ⟨A2, n2, c2, B2, m2, d2, es3, rfl, hA2, hB2, hM, hb7⟩
            have hF := hide (((hon30.out.trans' hon.out).trans' hon6.out).belowAt hb7 (by have := hz2.out; omega))
            have h8 : w7.heap[w.heap.size]? = _ := (hF.out.block w.heap.size hz0 (by omega)).trans k8.out
            have a0 : w7.cell? ⟨w.heap.size, 0, none⟩ = some (.int .i64 0) := (cell_of_row _ _ 0 _ _ (0, 0) h8).trans rfl
            have a1 : w7.cell? ⟨w.heap.size, 1, none⟩ = some (.int .i64 0) := (cell_of_row _ _ 1 _ _ (0, 0) h8).trans rfl
            have a2 : w7.cell? ⟨w.heap.size, 2, none⟩ = some (.slice none 0 0) := (cell_of_row _ _ 2 _ _ (0, 0) h8).trans rfl
            have a3 : w7.cell? ⟨w.heap.size, 3, none⟩ = some (.slice none 0 0) := (cell_of_row _ _ 3 _ _ (0, 0) h8).trans rfl
            have z0 : w7.frozen? ⟨w.heap.size, 0, none⟩ = false := frozen_of_row _ _ 0 _ _ h8
            have z1 : w7.frozen? ⟨w.heap.size, 1, none⟩ = false := frozen_of_row _ _ 1 _ _ h8
            have z2 : w7.frozen? ⟨w.heap.size, 2, none⟩ = false := frozen_of_row _ _ 2 _ _ h8
            have z3 : w7.frozen? ⟨w.heap.size, 3, none⟩ = false := frozen_of_row _ _ 3 _ _ h8
            have hS7 := hide (h6.out.src.below hb7 (by omega))
            have hz7 := hb7.size
            have hlA := hA2.len
            have hlj := joi_len ts
            have hlT : ts.length = n := hTK.out.len
            replace hA2 := hide hA2
            replace hB2 := hide hB2
            replace hM := hide hM
            replace h8 := hide h8
            clear r2 hb7
            go_wp2_with fail
            (try simp only [Exit.inBlock, Exit.then])
            refine bodyPost_ret_by (v := .agg #[.int .i64 (st : Int), .int .i64 (ini : Int), .slice A2 n2 c2, .slice B2 m2 d2]) ?_ rfl ?_
            focus
              rw [results_cell1 rfl]
              go_simp
            change DrawnG 6 60 1000 b N w _ (put4 w7 w.heap.size _ _ _ _)
            have hw2 : w.heap.size < w2.heap.size := by have := hz2.out; omega
            have hZs := put4_size w7 w.heap.size (.int .i64 (st : Int)) (.int .i64 (ini : Int)) (.slice A2 n2 c2) (.slice B2 m2 d2)
            have hmade : ltsV ((st : Int), (ini : Int), joiF ts, es3) = true := made_valid (by omega) (by omega) (fun x hx => (hD.out x hx).imp id fun h => (nm5_lab x h).1) (by omega) (by omega) (fun e he => ⟨(hEd.out e he).1, (hEd.out e he).2.2⟩) hM.out
            refine ⟨st, ini, A2, n2, c2, B2, m2, d2, ts, es3, rfl, ?_, ?_, hmade, by omega, by have := hM.out.2.1; omega, by omega, hD.out, ?_, ?_⟩
            · exact (Sl.keep hA2.out (by omega) fun q h1 h2 h3 => put4_other _ _ _ _ _ _ (by omega)).more (by omega) (by omega)
            · exact (Sl.keep hB2.out (by omega) fun q h1 h2 h3 => put4_other _ _ _ _ _ _ (by omega)).more (by omega) (by omega)
            · exact (hS7.out.keep (by omega) fun q hq => put4_other _ _ _ _ _ _ (by omega)).more (by omega)
            · exact put4_only (hon0.out.trans' hF.out) (Nat.le_refl _) _ _ _ _

end Go.Proofs.YtcdhgabcajehnaaGreatDoor

namespace Go.Proofs.YtcdhgabcajehnaaGreatDoor
open Go
set_option linter.unusedVariables false

section
variable {P : Program} {ops : Array Oper} {Q : Exit → Act → World → Prop} {md : Region.Mode} {S : World → Prop} {st : Nat}

/-- Any order from here on; S holds behind each operation but number st. -/
def lateT (P : Program) (md : Region.Mode) (ops : Array Oper) (Q : Exit → Act → World → Prop) (S : World → Prop) (st : Nat) : Nat → Array Bool → Act → World → Prop
  | 0, got, a, w => Region.ready md ops got = [] ∧ Q .normal a w
  | m + 1, got, a, w => (Region.ready md ops got = [] → Q .normal a w) ∧
    ∀ i ∈ Region.ready md ops got, wpOp P ops Q i (fun a' w' => (i ≠ st → S w') ∧ lateT P md ops Q S st m (got.setIfInBounds i true) a' w') a w
theorem lateT.any : ∀ (m : Nat) (got : Array Bool) (a : Act) (w : World), lateT P md ops Q S st m got a w → wpAny P md ops Q m got a w
  | 0, _, _, _, h => h
  | m + 1, got, _, _, h => ⟨h.1, fun i hi => wpOp_mono (fun a' w' k => lateT.any m _ a' w' k.2) (h.2 i hi)⟩

/-- Each of these waits for the one ahead of it. -/
def chainW (md : Region.Mode) (ops : Array Oper) : Nat → List Nat → Bool
  | _, [] => true
  | i, d :: ds => Region.waitsFor md ops d i && chainW md ops d ds
def openW (got : Array Bool) (ds : List Nat) : Bool := ds.all fun d => !got.getD d true
theorem openW_mem {got : Array Bool} {ds : List Nat} (h : openW got ds = true) {d : Nat} (hd : d ∈ ds) : got.getD d true = false := by
  unfold openW at h
  have := List.all_eq_true.1 h d hd
  simpa using this
theorem chainW_shut {got : Array Bool} : ∀ (ds : List Nat) (i : Nat), chainW md ops i ds = true → got.getD i true = false → openW got ds = true → ∀ d ∈ ds, d ∉ Region.ready md ops got
  | [], _, _, _, _, d, hd => by cases hd
  | e :: ds, i, h, hi, ho, d, hd => by
    unfold chainW at h
    rw [Bool.and_eq_true] at h
    have he : got.getD e true = false := openW_mem ho (by simp)
    rcases List.mem_cons.1 hd with rfl | hd
    · intro hr
      obtain ⟨oj, h1, x, hx, hb, hon⟩ := Region.waitsFor_spec h.1
      obtain ⟨-, o, h2, h3⟩ := mem_ready.1 hr
      rw [h1] at h2
      obtain rfl := Option.some.inj h2
      have := h3 x hx hb
      rw [hon, getD_both hi] at this
      cases this
    · exact chainW_shut ds e h.2 he (by unfold openW at ho ⊢; rw [List.all_cons, Bool.and_eq_true] at ho; exact ho.2) d hd

theorem lateT_first {i : Nat} {oi : Oper} {v : Value} {ds : List Nat} (hi : ops[i]? = some oi) (hsel : Region.noSelect ops = true) (hc : chainW md ops i ds = true) (hst : st ∈ ds)
    (hQ : ∀ c a w, Q (.panic c) (a.put oi.dst v) w → Q (.panic c) a w) : ∀ (m : Nat) (got : Array Bool) (a : Act) (w : World),
      (∀ j oj, ops[j]? = some oj → j ≠ i → got.getD j true = false → (∀ e ∈ oj.after, Region.binds md e = true → e.on ≠ i) → oi.apart ops oj = true) →
      i ∈ Region.ready md ops got → openW got ds = true → YieldsIf P ops S oi v a → S w →
      lateT P md ops Q S st m (got.setIfInBounds i true) (a.put oi.dst v) w → lateT P md ops Q S st (m + 1) got a w
  | 0, got, a, w, _, hr, _, hy, hS, H => by
    refine ⟨fun h => (by rw [h] at hr; cases hr), fun j hj => ?_⟩
    by_cases hji : j = i
    · subst hji; exact hy.wpOp hi hS ⟨fun _ => hS, H⟩
    · have := ready_mono hj hji
      rw [H.1] at this
      cases this
  | m + 1, got, a, w, hfree, hr, ho, hy, hS, H => by
    refine ⟨fun h => (by rw [h] at hr; cases hr), fun j hj => ?_⟩
    by_cases hji : j = i
    · subst hji; exact hy.wpOp hi hS ⟨fun _ => hS, H⟩
    · have h1 := H.2 j (ready_mono hj hji)
      obtain ⟨hjun, oj, hoj, hall⟩ := mem_ready.1 hj
      have hi0 := (mem_ready.1 hr).1
      have hjd : j ∉ ds := fun hm => chainW_shut ds i hc hi0 ho j hm hj
      have hjst : j ≠ st := fun e => hjd (e ▸ hst)
      have hnot : ∀ e ∈ oj.after, Region.binds md e = true → e.on ≠ i := fun e he hb heq => by
        have h2 := hall e he hb
        rw [heq, getD_both hi0] at h2
        cases h2
      have h2 := wpOp_putIf hoj (hfree j oj hoj hji hjun hnot) (fun cs b => Region.noSelect_spec hsel i oi cs b hi) (fun cs b => Region.noSelect_spec hsel j oj cs b hoj) hQ hy h1
      refine wpOp_mono (fun a' w' h3 => ⟨h3.2.1, lateT_first hi hsel hc hst hQ m (got.setIfInBounds j true) a' w' (fun k ok hk hki hun hno => ?_) (ready_mono hr (Ne.symm hji)) ?_ h3.1 (h3.2.1 hjst) ?_⟩) h2
      · refine hfree k ok hk hki ?_ hno
        by_cases hjk : j = k
        · subst hjk; exact hjun
        · rw [getD_set_ne true hjk] at hun; exact hun
      · unfold openW
        rw [List.all_eq_true]
        intro d hd
        rw [getD_set_ne true (fun e : j = d => hjd (by rw [e]; exact hd)), openW_mem ho hd]
        rfl
      · rw [Array.setIfInBounds_comm _ _ hji]
        exact h3.2.2
/-- A read, an address, a copy is taken first. -/
theorem lateT_take {i : Nat} {oi : Oper} {v : Value} {m : Nat} {got : Array Bool} {a : Act} {w : World} (ds : List Nat) (hi : ops[i]? = some oi) (hsel : Region.noSelect ops = true) (hf : Region.free md ops got i = true)
    (hr : (Region.ready md ops got).contains i = true) (hc : (chainW md ops i ds && openW got ds && ds.contains st) = true) (hQ : ∀ c a w, Q (.panic c) (a.put oi.dst v) w → Q (.panic c) a w) (hy : YieldsIf P ops S oi v a) (hS : S w)
    (h : lateT P md ops Q S st m (got.setIfInBounds i true) (a.put oi.dst v) w) : lateT P md ops Q S st (m + 1) got a w := by
  rw [Bool.and_eq_true, Bool.and_eq_true] at hc
  exact lateT_first hi hsel hc.1.1 (by simpa using hc.2) hQ m got a w (Region.free_spec hi hf) (by simpa using hr) hc.1.2 hy hS h
/-- The only operation that may come. -/
theorem lateT_step {i : Nat} {o : Oper} {m : Nat} {got : Array Bool} {a : Act} {w : World} (hr : Region.ready md ops got = [i]) (ho : ops[i]? = some o)
    (h : ∀ K : Act → World → Prop, Shut (∀ a w, (i ≠ st → S w) → lateT P md ops Q S st m (got.setIfInBounds i true) a w → K a w) → if Region.wanted o (yielded ops a.tmps) = true then Oper.wp P o a w K Q else K (a.put o.dst undef) w) : lateT P md ops Q S st (m + 1) got a w := by
  refine ⟨fun h0 => (by rw [hr] at h0; cases h0), fun j hj => ?_⟩
  rw [hr] at hj
  obtain rfl := List.mem_singleton.1 hj
  exact wpOp_step ho fun K hK => h K fun a w hS hl => hK a w ⟨hS, hl⟩
theorem lateT_done {got : Array Bool} {a : Act} {w : World} (hr : Region.ready md ops got = []) (h : Q .normal a w) : ∀ m, lateT P md ops Q S st m got a w
  | 0 => ⟨hr, h⟩
  | _ + 1 => ⟨fun _ => h, by rw [hr]; simp⟩
theorem lateT_begin {id : Nat} {a : Act} {w : World} (hm : P.follows .mixedOrders = true) (h : lateT P .any ops Q S st ops.size (Array.replicate ops.size false) a w.drew) : (Code.region id ops true).wp P Q a w :=
  wp_region_any hm (lateT.any _ _ _ _ h)
end

end Go.Proofs.YtcdhgabcajehnaaGreatDoor

namespace Go.Proofs.YtcdhgabcajehnaaGreatDoor
open Go.ChangeShapes Go.WideShapes Go.ChangeAt Go.RowKit
set_option linter.unusedVariables false
set_option linter.unusedSimpArgs false

/-- A box of a system and what it leads to. -/
def LtsBox (w : World) (g : Nat) (st ini : Int) (A : Option Addr) (n c : Nat) (B : Option Addr) (m d : Nat) : Prop := w.heap[g]? = some (.cells #[.int .i64 st, .int .i64 ini, .slice A n c, .slice B m d] 27 (0, 0))
section
variable {w : World} {g : Nat} {st ini : Int} {A : Option Addr} {n c : Nat} {B : Option Addr} {m d : Nat} (h : LtsBox w g st ini A n c B m d)
include h
theorem LtsBox.c0 : w.cell? ⟨g, 0, none⟩ = some (.int .i64 st) := (cell_of_row _ _ 0 _ _ (0, 0) h).trans rfl
theorem LtsBox.c1 : w.cell? ⟨g, 1, none⟩ = some (.int .i64 ini) := (cell_of_row _ _ 1 _ _ (0, 0) h).trans rfl
theorem LtsBox.c2 : w.cell? ⟨g, 2, none⟩ = some (.slice A n c) := (cell_of_row _ _ 2 _ _ (0, 0) h).trans rfl
theorem LtsBox.c3 : w.cell? ⟨g, 3, none⟩ = some (.slice B m d) := (cell_of_row _ _ 3 _ _ (0, 0) h).trans rfl
theorem LtsBox.lt : g < w.heap.size := (Array.getElem?_eq_some_iff.1 h).1
theorem LtsBox.only {lo hi : Nat} {w' : World} (g2 : Only lo hi w w') (hd : g < lo ∨ hi ≤ g) : LtsBox w' g st ini A n c B m d := (g2.block g h.lt hd).trans h
theorem LtsBox.below {K : Nat} {w' : World} (g2 : Below K w w') (hd : g < K) : LtsBox w' g st ini A n c B m d := (g2.block g hd).trans h
end
theorem ltsV_edge {st ini : Int} {ls : List ByteArray} {es : List Ed} (h : ltsV (st, ini, ls, es) = true) : (∀ e, e ∈ es → (0 ≤ e.1 ∧ e.1 < st) ∧ (0 ≤ e.2.1 ∧ e.2.1 < (ls.length : Int)) ∧ 0 ≤ e.2.2 ∧ e.2.2 < st) ∧ (1 ≤ st ∧ st ≤ 40) ∧ (0 ≤ ini ∧ ini < st) := by
  rw [ltsV_eq] at h
  simp only [Bool.and_eq_true, decide_eq_true_eq] at h
  obtain ⟨⟨h1, h2, h3, h4⟩, h5⟩ := h
  have h1 := inB_true.1 h1
  have h2 := inB_true.1 h2
  refine ⟨fun e he => ?_, by omega, by omega⟩
  obtain ⟨k, hk⟩ := List.getElem?_of_mem he
  have hkl := (List.getElem?_eq_some_iff.1 hk).1
  obtain ⟨f, lb, t⟩ := e
  have hok := allK_get h5 hkl
  have key : ∀ {b : Bool}, ((inB f 0 (st - 1) && (inB t 0 (st - 1) && inB lb 0 ((ls.length : Int) - 1))) && b) = true → (0 ≤ f ∧ f < st) ∧ (0 ≤ lb ∧ lb < (ls.length : Int)) ∧ 0 ≤ t ∧ t < st := fun h => by
    simp only [Bool.and_eq_true] at h
    obtain ⟨⟨g1, g2, g3⟩, _⟩ := h
    have g1 := inB_true.1 g1
    have g2 := inB_true.1 g2
    have g3 := inB_true.1 g3
    omega
  by_cases k0 : k = 0
  · subst k0
    rw [okE_zero hk] at hok
    exact key (b := true) (by rw [Bool.and_true]; exact hok)
  · obtain ⟨r, hr⟩ : ∃ r, es[k - 1]? = some r := ⟨_, List.getElem?_eq_getElem (by omega)⟩
    rw [okE_at hk (by omega) hr] at hok
    exact key hok

set_option maxRecDepth 100000 in
set_option maxHeartbeats 6400000 in
theorem l15DrawOk_calls (b N : Nat) (w : World) (h : SrcW w b N) (hN : N ≤ 600000000) :
    Calls Tryz.prog 28 #[.pointer (some ⟨b, 0, none⟩)] w (DrawnG 7 64 2000 b N w) := by
  have hEe := hide elem_edge
  have hbl := h.lt
  have hon0 := (Only.refl b (b + 1) w).alloc' (.cells #[.int .i64 0, .int .i64 0, .slice none 0 0, .slice none 0 0] 27)
  have k8 := heap_alloc_new w (.cells #[.int .i64 0, .int .i64 0, .slice none 0 0, .slice none 0 0] 27)
  have hS0 := h.alloc (.cells #[.int .i64 0, .int .i64 0, .slice none 0 0, .slice none 0 0] 27)
  have hz0 : w.heap.size < (w.alloc (.cells #[.int .i64 0, .int .i64 0, .slice none 0 0, .slice none 0 0] 27)).heap.size := by simp
  obtain ⟨wA, hwA⟩ : ∃ wA, wA = w.alloc (.cells #[.int .i64 0, .int .i64 0, .slice none 0 0, .slice none 0 0] 27) := ⟨_, rfl⟩
  rw [← hwA] at hon0 k8 hS0 hz0
  have q1 := hide (l11DrawOk_calls b N wA hS0 (by omega))
  replace hon0 := hide hon0
  replace k8 := hide k8
  clear h hS0
  go_enter Tryz.func28, Tryz.ntmps28
  go_upto_region 1 with fail
  rw [← hwA]
  replace hwA := hide hwA
  go_wp2_with fail
  refine q1.out.mono ?_
  rintro e w1 ⟨st, ini, A, n, c, B, m, d, ts, es, rfl, hA1, hB1, hv, hst7, hm60, hn6, hD, hs1, hon1⟩
  obtain ⟨hed, hst40, hini⟩ := ltsV_edge hv
  have hlA := hA1.len
  have hlB := hB1.len
  rw [hlA] at hed
  have hnpos : 0 < n := by have := (List.getElem?_eq_some_iff.1 (joi_head ts)).1; omega
  replace hed := hide hed
  have hbl1 : b < w1.heap.size := hs1.lt
  have hbw1 := (Below.refl w1.heap.size w1).alloc (Nat.le_refl _) (.cells #[.int .i64 (st : Int), .int .i64 (ini : Int), .slice A n c, .slice B m d] 27)
  have hbox := heap_alloc_new w1 (.cells #[.int .i64 (st : Int), .int .i64 (ini : Int), .slice A n c, .slice B m d] 27)
  have hz2 : w1.heap.size + 1 = (w1.alloc (.cells #[.int .i64 (st : Int), .int .i64 (ini : Int), .slice A n c, .slice B m d] 27)).heap.size := by simp
  obtain ⟨w2, hw2⟩ : ∃ w2, w2 = w1.alloc (.cells #[.int .i64 (st : Int), .int .i64 (ini : Int), .slice A n c, .slice B m d] 27) := ⟨_, rfl⟩
  rw [← hw2] at hbw1 hbox hz2
  have hz12 : w1.heap.size < w2.heap.size := by omega
  have hbox2 : Hid (LtsBox w2 w1.heap.size (st : Int) (ini : Int) A n c B m d) := hbox
  have hA2 := hide (hA1.below hbw1 (.inl (Nat.le_refl _)))
  have hB2 := hide (hB1.below hbw1 (.inl (Nat.le_refl _)))
  have hs2 := hs1.below hbw1 hbl1
  have hon2 := hide (hon1.belowAt hbw1 hon1.size)
  have hE0 : Hid (Own 3 ev (w2.alloc (.cells #[] 70)) w2.heap.size 70 (some ⟨w2.heap.size, 0, none⟩) 0 0 ([] : List Ed)) := Own.made (α := Ed) (size := 3) (f := ev) w2 70 (Nat.le_refl _)
  have hs3 := hide (hs2.alloc (.cells #[] 70))
  have hon3 := hide ((Only.refl b (b + 1) w2).alloc' (.cells #[] 70))
  have hbl2 : b < w2.heap.size := by omega
  have hz1 : wA.heap.size ≤ w1.heap.size := hon1.size
  replace hz2 := hide hz2
  replace hv := hide hv
  replace hD := hide hD
  obtain ⟨hst1, -⟩ := hst40
  obtain ⟨hini0, hini1⟩ := hini
  clear q1 hA1 hB1 hs1 hs2 hon1 hbox hbw1
  go_upto_region 2 with fail
  rw [← hw2]
  replace hw2 := hide hw2
  go_wp2_with fail
  go_loopw [4, 5] (fun v4 v5 wr => ∃ (k cc : Nat) (E : Option Addr) (es1 : List Ed), k ≤ m ∧ v5 = .int .i64 (k : Nat) ∧ v4 = .slice E k cc ∧ Hid (Own 3 ev wr w2.heap.size 70 E k cc es1) ∧ Hid (EdD st n es1) ∧ Hid (SrcW wr b (N + 1000 + 2 * k)) ∧ Hid (Only b (b + 1) w2 wr)) (fun _ v _ => m - (intOf v).toNat)
  case atStart => exact ⟨0, 0, _, [], Nat.zero_le _, rfl, rfl, hE0.out, EdD.start _ _, hs3.out, hon3.out⟩
  case round =>
    clear hE0 hs3 hon3
    obtain ⟨k, cc, E, es1, hk, rfl, rfl, hO, hEd, hS, hon⟩ := hrel
    have hbox := hide (hbox2.out.only hon.out (.inr (by omega)))
    have hzr := hon.out.size
    by_cases hlt : k < m
    · have k0 : (0 : Int) ≤ (k : Int) := by omega
      have k1 : (k : Int) < (m : Int) := by omega
      obtain ⟨gb, ob, f, lb, t, rfl, -, -, hgb, hx, x0, x1, x2, -⟩ := SlE.get (hB2.out.only hon.out (.inr (by omega))) hlt
      have hin := hed.out _ (List.mem_of_getElem? hx)
      (try dsimp only at hin)
      have b3 := hbox.out.c3
      have hbx := heap_alloc_new wr (.cells #[.int .i64 f, .int .i64 lb, .int .i64 t] 70)
      have hOE := hO.out.alloc (.cells #[.int .i64 f, .int .i64 lb, .int .i64 t] 70)
      have hSE := hS.out.alloc (.cells #[.int .i64 f, .int .i64 lb, .int .i64 t] 70)
      have honE := (Only.refl b (b + 1) wr).alloc' (.cells #[.int .i64 f, .int .i64 lb, .int .i64 t] 70)
      obtain ⟨wE, hwE⟩ : ∃ wE, wE = wr.alloc (.cells #[.int .i64 f, .int .i64 lb, .int .i64 t] 70) := ⟨_, rfl⟩
      rw [← hwE] at hbx hOE hSE honE
      obtain ⟨be, hbe⟩ : ∃ be, be = wr.heap.size := ⟨_, rfl⟩
      rw [← hbe] at hbx
      obtain ⟨wO, hwO⟩ : ∃ wO : World, wO = wr := ⟨_, rfl⟩
      have hbel : be < wE.heap.size := (Array.getElem?_eq_some_iff.1 hbx).1
      have q2 := hide (one_calls b _ 3 wE hSE (by omega))
      replace hbx := hide hbx
      replace hOE := hide hOE
      replace honE := hide honE
      clear hx hSE
      go_upto_region 7 with fail
      rw [← hwE, ← hbe]
      replace hwE := hide hwE
      have hbe2 : w2.heap.size ≤ be := by rw [hbe]; exact hzr
      have hber : wr.heap.size ≤ be := Nat.le_of_eq hbe.symm
      replace hbe := hide hbe
      clear x0 x1 x2 b3 hwO
      go_upto_if 24 with (first | (go_at_call 59; (with_reducible refine q2.out.mono ?_); rintro e w5 ⟨yes, rfl, hs5⟩; replace hs5 := hide hs5))
      go_cut [] (fun wx => ∃ lb2 : Int, Hid (0 ≤ lb2 ∧ lb2 < (n : Int)) ∧ Hid (wx.heap[be]? = some (.cells #[.int .i64 f, .int .i64 lb2, .int .i64 t] 70 (0, 0))) ∧ Hid (Own 3 ev wx w2.heap.size 70 E k cc es1) ∧ Hid (SrcW wx b (N + 1000 + 2 * k + 2)) ∧ Hid (Only b (b + 1) wr wx))
      case first =>
        have hb5 : w5.heap[be]? = _ := (hs5.out.only.block be hbel (by omega)).trans hbx.out
        have hO5 := hide (hOE.out.keep (w' := w5) fun g e => hs5.out.only.block g (hOE.out.lt g e).2 (by have := (hOE.out.lt g e).1; omega))
        have hon5 := hide (honE.out.trans' hs5.out.only)
        cases yes with
        | false =>
          go_wp2_with fail
          go_meet
          exact ⟨lb, hin.2.1, hb5, hO5.out, hs5.out.src, hon5.out⟩
        | true =>
          have y1 : w5.cell? ⟨be, 1, none⟩ = some (.int .i64 lb) := (cell_of_row _ _ 1 _ _ (0, 0) hb5).trans rfl
          have z1 : w5.frozen? ⟨be, 1, none⟩ = false := frozen_of_row _ _ 1 _ _ hb5
          have hb6 : Hid ((w5.setCell ⟨be, 1, none⟩ (.int .i64 0)).heap[be]? = some (.cells #[.int .i64 f, .int .i64 0, .int .i64 t] 70 (0, 0))) := heap_setCell_same w5 be 1 _ _ (.int .i64 0) hb5
          have hO6 := hide (hO5.out.keep (w' := w5.setCell ⟨be, 1, none⟩ (.int .i64 0)) fun g e => Below.heap_setCell _ _ _ _ (by
            have := (hO.out.lt g e).2
            show g ≠ be
            omega))
          have hS6 := hide (hs5.out.src.setNew (p := ⟨be, 1, none⟩) (by show b < be; omega) (.int .i64 0))
          have hon6 := hide (hon5.out.setNew (p := ⟨be, 1, none⟩) hber (.int .i64 0))
          replace hb5 := hide hb5
          go_wp2_with fail
          go_meet
          exact ⟨0, by show _ ∧ _; omega, hb6.out, hO6.out, hS6.out, hon6.out⟩
      case rest =>
        clear hOE honE q2 hO hS hbx
        obtain ⟨lb2, hlb2, hbx, hO, hS, honC⟩ := hcut
        have hon6 := hide (hon.out.trans' honC.out)
        have y0 : wc.cell? ⟨be, 0, none⟩ = some (.int .i64 f) := (cell_of_row _ _ 0 _ _ (0, 0) hbx.out).trans rfl
        have y1 : wc.cell? ⟨be, 1, none⟩ = some (.int .i64 lb2) := (cell_of_row _ _ 1 _ _ (0, 0) hbx.out).trans rfl
        have y2 : wc.cell? ⟨be, 2, none⟩ = some (.int .i64 t) := (cell_of_row _ _ 2 _ _ (0, 0) hbx.out).trans rfl
        have hz6 := hon6.out.size
        have hza : w2.heap.size ≤ (wc.alloc (.cells #[.int .i64 f, .int .i64 lb2, .int .i64 t] 70)).heap.size := by rw [World.size_alloc]; omega
        have hOa := hide (hO.out.alloc (.cells #[.int .i64 f, .int .i64 lb2, .int .i64 t] 70))
        have hSa := hide (hS.out.alloc (.cells #[.int .i64 f, .int .i64 lb2, .int .i64 t] 70))
        have hona := hide (hon6.out.alloc' (.cells #[.int .i64 f, .int .i64 lb2, .int .i64 t] 70))
        have hrow := hide (fun q (e : (Value.slice E k cc).ownBlock = some q) => (hOa.out.lt q e).1)
        have hEd2 := hide (hEd.out.app (f := f) (l := lb2) (t := t) hin.1 hlb2.out hin.2.2)
        clear hO hS hon honC hon6 hEd hz6
        go_wp2_with (first | (at_builtin; (with_reducible refine wpList_app rfl (.tmp 26) (.tmp 28) rfl hEe.out flat_ev rfl hOa.out rfl (Sl.lit1' wc 70 (f, lb2, t) _ rfl 3 _ ?d0) ?d1 hza ?_); rotate_right; intro A6 c6 w6 hown6 hgr6 hb6 hat6))
        case d0 => rfl
        case d1 => omega
        have hS6 := hide ((hSa.out.grow hgr6 (fun q e => by have := hrow.out q e; omega)).more (show N + 1000 + 2 * k + 2 ≤ N + 1000 + 2 * (k + 1) by omega))
        have hon6 := hide (hona.out.grow hgr6 (fun q e => hrow.out q e))
        replace hown6 := hide hown6
        clear hgr6 hb6 hat6 hOa hSa hona hrow y0 y1 y2
        go_wp2_with fail
        go_roundw
        case rel => exact ⟨k + 1, c6, A6, _, by omega, by go_num, rfl, hown6.out, hEd2.out, hS6.out, hon6.out⟩
        case measure => simp [intOf]; omega
    · obtain rfl : k = m := by omega
      have k1 : ¬ (k : Int) < (k : Int) := by omega
      obtain ⟨wL, rfl⟩ : ∃ wL : World, wL = wr := ⟨_, rfl⟩
      have b3 := hbox.out.c3
      have q3 := hide (pick_calls b _ 3 wL hS.out (by omega))
      go_wp2_with fail
      refine q3.out.mono ?_
      rintro e w5 ⟨r0, rfl, r00, r01, hs5⟩
      obtain ⟨r, rfl⟩ : ∃ r : Nat, r0 = (r : Int) := ⟨r0.toNat, by omega⟩
      have hr2 : r ≤ 2 := by omega
      have hO5 := hide (hO.out.keep (w' := w5) fun g e => hs5.only.block g (hO.out.lt g e).2 (by have := (hO.out.lt g e).1; omega))
      have hon5 := hide (hon.out.trans' hs5.only)
      have hS5 := hide (hs5.src.more (show N + 1000 + 2 * k + 2 ≤ N + 1200 + 10 * (2 - r) by omega))
      clear q3 hs5 hO hon hS r00 r01 b3 hbox
      go_wp2_with fail
      go_loopw [4, 7] (fun v4 v7 wr => ∃ (r mm cc : Nat) (E : Option Addr) (es1 : List Ed), r ≤ 2 ∧ v7 = .int .i64 (r : Nat) ∧ v4 = .slice E mm cc ∧ mm ≤ 62 - r ∧ Hid (Own 3 ev wr w2.heap.size 70 E mm cc es1) ∧ Hid (EdD st n es1) ∧ Hid (SrcW wr b (N + 1200 + 10 * (2 - r))) ∧ Hid (Only b (b + 1) w2 wr)) (fun _ v _ => (intOf v).toNat)
      case atStart => exact ⟨r, k, _, _, _, hr2, rfl, rfl, by omega, hO5.out, hEd.out, hS5.out, hon5.out⟩
      case round =>
        clear hO5 hon5 hS5 hEd hr2
        obtain ⟨r, mm, cc, E, es1, hr, rfl, rfl, hmm, hO, hEd, hS, hon⟩ := hrel
        have hbox := hide (hbox2.out.only hon.out (.inr (by omega)))
        have hzr := hon.out.size
        by_cases hpos : 0 < r
        · have p1 : (0 : Int) < (r : Int) := by omega
          obtain ⟨NN, hNN⟩ : ∃ NN, N + 1200 + 10 * (2 - r) = NN := ⟨_, rfl⟩
          rw [hNN] at hS
          have hNNb : NN ≤ N + 2000 := by omega
          replace hNN := hide hNN
          have q1 := hide (pick_calls b NN (st : Int) wr.drew hS.out.drew (by omega))
          go_upto_region 13 with fail
          focus
            refine lateT_begin (S := fun w' => w'.cell? ⟨w1.heap.size, 0, none⟩ = some (.int .i64 (st : Int))) (st := 12) (by kernel_rfl) ?_
            have hS0 : (fun w' : World => w'.cell? ⟨w1.heap.size, 0, none⟩ = some (.int .i64 (st : Int))) wr.drew := hbox.out.c0
            refine lateT_take (i := 0) (oi := _) (v := ?_) [12] rfl (by kernel_rfl) (by kernel_rfl) (by kernel_rfl) (by kernel_rfl) (fun _ _ _ h => h) (Or.inl ⟨by rfl, ?hy⟩) hS0 ?_
            case hy => (intro w hSw; (try dsimp only at hSw); go_simp <;> with_reducible rfl)
            (try simp only [Act.put, List.setIfInBounds_toArray, List.set_cons_zero, List.set_cons_succ])
            refine lateT_take (i := 1) (oi := _) (v := ?_) [12] rfl (by kernel_rfl) (by kernel_rfl) (by kernel_rfl) (by kernel_rfl) (fun _ _ _ h => h) (Or.inl ⟨by rfl, ?hy⟩) hS0 ?_
            case hy => (intro w hSw; (try dsimp only at hSw); go_simp <;> with_reducible rfl)
            (try simp only [Act.put, List.setIfInBounds_toArray, List.set_cons_zero, List.set_cons_succ])
            refine lateT_take (i := 2) (oi := _) (v := ?_) [12] rfl (by kernel_rfl) (by kernel_rfl) (by kernel_rfl) (by kernel_rfl) (fun _ _ _ h => h) (Or.inl ⟨by rfl, ?hy⟩) hS0 ?_
            case hy => (intro w hSw; (try dsimp only at hSw); go_simp <;> with_reducible rfl)
            (try simp only [Act.put, List.setIfInBounds_toArray, List.set_cons_zero, List.set_cons_succ])
            refine lateT_take (i := 3) (oi := _) (v := ?_) [12] rfl (by kernel_rfl) (by kernel_rfl) (by kernel_rfl) (by kernel_rfl) (fun _ _ _ h => h) (Or.inl ⟨by rfl, ?hy⟩) hS0 ?_
            case hy => (intro w hSw; (try dsimp only at hSw); go_simp <;> with_reducible rfl)
            (try simp only [Act.put, List.setIfInBounds_toArray, List.set_cons_zero, List.set_cons_succ])
            refine lateT_take (i := 5) (oi := _) (v := ?_) [12] rfl (by kernel_rfl) (by kernel_rfl) (by kernel_rfl) (by kernel_rfl) (fun _ _ _ h => h) (Or.inl ⟨by rfl, ?hy⟩) hS0 ?_
            case hy => (intro w hSw; (try dsimp only at hSw); go_simp <;> with_reducible rfl)
            (try simp only [Act.put, List.setIfInBounds_toArray, List.set_cons_zero, List.set_cons_succ])
            refine lateT_take (i := 6) (oi := _) (v := ?_) [12] rfl (by kernel_rfl) (by kernel_rfl) (by kernel_rfl) (by kernel_rfl) (fun _ _ _ h => h) (Or.inl ⟨by rfl, ?hy⟩) hS0 ?_
            case hy => (intro w hSw; (try dsimp only at hSw); go_simp <;> with_reducible rfl)
            (try simp only [Act.put, List.setIfInBounds_toArray, List.set_cons_zero, List.set_cons_succ])
            refine lateT_take (i := 7) (oi := _) (v := ?_) [12] rfl (by kernel_rfl) (by kernel_rfl) (by kernel_rfl) (by kernel_rfl) (fun _ _ _ h => h) (Or.inl ⟨by rfl, ?hy⟩) hS0 ?_
            case hy => (intro w hSw; (try dsimp only at hSw); go_simp <;> with_reducible rfl)
            (try simp only [Act.put, List.setIfInBounds_toArray, List.set_cons_zero, List.set_cons_succ])
            refine lateT_step (i := 4) (by kernel_rfl) rfl (fun K hK => ?_)
            go_simp
            go_at_call 48
            refine q1.out.mono ?_
            rintro e w5 ⟨f, rfl, f0, f1, h5⟩
            have hb5 := hide (hbox.out.only (w := wr.drew) h5.only (.inr (by omega)))
            have k5 := hb5.out.c0
            have q2 := hide (pick_calls b _ (st : Int) w5 h5.src (by omega))
            replace h5 := hide h5
            clear q1
            go_wp2_with fail
            refine hK.out _ _ (fun _ => k5) ?_
            clear hK K
            (try simp only [Act.put, List.setIfInBounds_toArray, List.set_cons_zero, List.set_cons_succ])
            refine lateT_step (i := 8) (by kernel_rfl) rfl (fun K hK => ?_)
            go_simp
            go_at_call 48
            refine q2.out.mono ?_
            rintro e w6 ⟨tg, rfl, t0, t1, h6⟩
            have hb6 := hide (hb5.out.only h6.only (.inr (by omega)))
            have k6 := hb6.out.c0
            replace h6 := hide (h5.out.trans h6)
            have hO6 := hide (hO.out.keep (w' := w6) fun g e => h6.out.only.block (w := wr.drew) g (hO.out.lt g e).2 (by have := (hO.out.lt g e).1; omega))
            have hon6 := hide (hon.out.drew'.trans' h6.out.only)
            have hz6 := hon6.out.size
            have hza : w2.heap.size ≤ (w6.alloc (.cells #[.int .i64 f, .int .i64 0, .int .i64 tg] 70)).heap.size := by rw [World.size_alloc]; omega
            have hOa := hide (hO6.out.alloc (.cells #[.int .i64 f, .int .i64 0, .int .i64 tg] 70))
            have hSa := hide (h6.out.src.alloc (.cells #[.int .i64 f, .int .i64 0, .int .i64 tg] 70))
            have hona := hide (hon6.out.alloc' (.cells #[.int .i64 f, .int .i64 0, .int .i64 tg] 70))
            have hbxa := hide (hb6.out.below ((Below.refl w6.heap.size w6).alloc (Nat.le_refl _) (.cells #[.int .i64 f, .int .i64 0, .int .i64 tg] 70)) hb6.out.lt)
            have ka := hbxa.out.c0
            have hrow := hide (fun q (e : (Value.slice E mm cc).ownBlock = some q) => (hOa.out.lt q e).1)
            have hEd2 := hide (hEd.out.app (f := f) (l := 0) (t := tg) (by omega) (by omega) (by omega))
            have hlit := hide (Sl.lit1' (f := ev) w6 70 (f, (0 : Int), tg) #[.int .i64 f, .int .i64 0, .int .i64 tg] rfl 3 _ rfl)
            have hsz : (mm + 1) * 24 ≤ 140737488355328 := by omega
            clear q2 h5 hO hon hS hEd
            go_wp2_with fail
            refine hK.out _ _ (fun _ => k6) ?_
            clear hK K
            (try simp only [Act.put, List.setIfInBounds_toArray, List.set_cons_zero, List.set_cons_succ])
            refine lateT_step (i := 9) (by kernel_rfl) rfl (fun K hK => ?_)
            go_simp
            refine hK.out _ _ (fun _ => k6) ?_
            clear hK K
            (try simp only [Act.put, List.setIfInBounds_toArray, List.set_cons_zero, List.set_cons_succ])
            refine lateT_step (i := 10) (by kernel_rfl) rfl (fun K hK => ?_)
            go_simp
            refine hK.out _ _ (fun _ => ka) ?_
            clear hK K
            (try simp only [Act.put, List.setIfInBounds_toArray, List.set_cons_zero, List.set_cons_succ])
            refine lateT_step (i := 11) (by kernel_rfl) rfl (fun K hK => ?_)
            refine step_appL (m := 1) (d := 1) (by rfl) (.tmp 36) (.tmp 46) (by rfl) hEe.out flat_ev (by go_simp) hOa.out (by go_simp) hlit.out hsz hza ?_
            intro A6 c6 w7 hown7 hgr7 hb7 hat7
            have hS7 := hide (hSa.out.grow hgr7 (fun q e => by have := hrow.out q e; omega))
            have hon7 := hide (hona.out.grow hgr7 (fun q e => hrow.out q e))
            have hbx7 := hide (hbxa.out.below hb7 (by omega))
            have k7 := hbx7.out.c0
            replace hown7 := hide hown7
            clear hgr7 hb7 hat7
            refine hK.out _ _ (fun _ => k7) ?_
            clear hK K
            (try simp only [Act.put, List.setIfInBounds_toArray, List.set_cons_zero, List.set_cons_succ])
            refine lateT_step (i := 12) (by kernel_rfl) rfl (fun K hK => ?_)
            go_simp
            refine hK.out _ _ (fun h => absurd rfl h) ?_
            clear hK K
            (try simp only [Act.put, List.setIfInBounds_toArray, List.set_cons_zero, List.set_cons_succ])
            refine lateT_done (by kernel_rfl) ?_ _
            obtain ⟨r2, rfl⟩ : ∃ r2, r = r2 + 1 := ⟨r - 1, by omega⟩
            have hS8 := hide (hS7.out.more (show NN + 2 + 2 ≤ N + 1200 + 10 * (2 - r2) by have := hNN.out; omega))
            go_wp2_with fail
            go_roundw
            case rel => exact ⟨r2, mm + 1, c6, A6, _, by omega, by go_num, rfl, by omega, hown7.out, hEd2.out, hS8.out, hon7.out⟩
            case measure => simp [intOf]
        · obtain rfl : r = 0 := by omega
          have p1 : ¬ (0 : Int) < ((0 : Nat) : Int) := by omega
          have c0 := hbox.out.c0
          have c1 := hbox.out.c1
          have c2 := hbox.out.c2
          have hmmL := hO.out.len
          have r2 := hide (l11Make_calls (st : Int) (ini : Int) A n c (joiF ts) E mm cc es1 wr ((hA2.out.only hon.out (.inr (by omega))).more (Nat.zero_le _) (by omega)) ((hO.out.sl flat_ev).more (Nat.zero_le _) (Nat.le_refl _)) (fun e he => (hEd.out e he).2.1) (by omega) (by omega))
          go_wp2_with fail
          refine r2.out.mono ?_
          rintro e w7 ⟨A3, n3, c3, B3, m3, d3, es3, rfl, hA3, hB3, hM, hb7⟩
          have hF := hide ((hon2.out.trans' hon.out).belowAt hb7 (by omega))
          have h8 : w7.heap[w.heap.size]? = _ := (hF.out.block w.heap.size hz0 (by omega)).trans k8.out
          have a0 : w7.cell? ⟨w.heap.size, 0, none⟩ = some (.int .i64 0) := (cell_of_row _ _ 0 _ _ (0, 0) h8).trans rfl
          have a1 : w7.cell? ⟨w.heap.size, 1, none⟩ = some (.int .i64 0) := (cell_of_row _ _ 1 _ _ (0, 0) h8).trans rfl
          have a2 : w7.cell? ⟨w.heap.size, 2, none⟩ = some (.slice none 0 0) := (cell_of_row _ _ 2 _ _ (0, 0) h8).trans rfl
          have a3 : w7.cell? ⟨w.heap.size, 3, none⟩ = some (.slice none 0 0) := (cell_of_row _ _ 3 _ _ (0, 0) h8).trans rfl
          have z0 : w7.frozen? ⟨w.heap.size, 0, none⟩ = false := frozen_of_row _ _ 0 _ _ h8
          have z1 : w7.frozen? ⟨w.heap.size, 1, none⟩ = false := frozen_of_row _ _ 1 _ _ h8
          have z2 : w7.frozen? ⟨w.heap.size, 2, none⟩ = false := frozen_of_row _ _ 2 _ _ h8
          have z3 : w7.frozen? ⟨w.heap.size, 3, none⟩ = false := frozen_of_row _ _ 3 _ _ h8
          have hS7 := hide (hS.out.below hb7 (by omega))
          have hz7 := hb7.size
          have hlA3 := hA3.len
          have hlj := joi_len (joiF ts)
          replace hA3 := hide hA3
          replace hB3 := hide hB3
          replace hM := hide hM
          replace h8 := hide h8
          clear r2 hb7 c0 c1 c2 hbox
          go_wp2_with fail
          (try simp only [Exit.inBlock, Exit.then])
          refine bodyPost_ret_by (v := .agg #[.int .i64 (st : Int), .int .i64 (ini : Int), .slice A3 n3 c3, .slice B3 m3 d3]) ?_ rfl ?_
          focus
            rw [results_cell1 rfl]
            go_simp
          change DrawnG 7 64 2000 b N w _ (put4 w7 w.heap.size _ _ _ _)
          have hZs := put4_size w7 w.heap.size (.int .i64 (st : Int)) (.int .i64 (ini : Int)) (.slice A3 n3 c3) (.slice B3 m3 d3)
          have hnam : NamD (joiF ts) := fun x hx => ((joi_mem_iff ts x).1 hx).elim .inl (hD.out x)
          have hlab : ∀ x, x ∈ joiF ts → x = tauB ∨ labS x = true := fun x hx => (hnam x hx).imp id fun h => (nm5_lab x h).1
          have hmade : ltsV ((st : Int), (ini : Int), joiF (joiF ts), es3) = true := made_valid (by omega) (by omega) hlab (by omega) (by omega) (fun e he => ⟨(hEd.out e he).1, (hEd.out e he).2.2⟩) hM.out
          refine ⟨st, ini, A3, n3, c3, B3, m3, d3, joiF ts, es3, rfl, ?_, ?_, hmade, by omega, by have := hM.out.2.1; omega, by omega, hnam, ?_, ?_⟩
          · exact (Sl.keep hA3.out (by omega) fun q h1 h2 h3 => put4_other _ _ _ _ _ _ (by omega)).more (by omega) (by omega)
          · exact (Sl.keep hB3.out (by omega) fun q h1 h2 h3 => put4_other _ _ _ _ _ _ (by omega)).more (by omega) (by omega)
          · exact (hS7.out.keep (by omega) fun q hq => put4_other _ _ _ _ _ _ (by omega)).more (by omega)
          · exact put4_only (hon0.out.trans' hF.out) (Nat.le_refl _) _ _ _ _

end Go.Proofs.YtcdhgabcajehnaaGreatDoor

namespace Go.Proofs.YtcdhgabcajehnaaGreatDoor
open Go.ChangeShapes Go.WideShapes Go.ChangeAt Go.RowKit
set_option linter.unusedVariables false
set_option linter.unusedSimpArgs false

set_option maxRecDepth 100000 in
set_option maxHeartbeats 1600000 in
theorem shortest1_calls (f lb tg : Int) (ba bl x : Nat) (AL : Option Addr) (N cL : Nat) (left : List Int) (d : Int) (w : World) (lo hi : Nat) (ka : w.cell? ⟨ba, 0, none⟩ = some (.int .i64 (x : Int))) (kl : w.cell? ⟨bl, 0, none⟩ = some (.slice AL N cL)) (hs : SlI w lo hi AL N left) (hN : N ≤ 40) (ht : 0 ≤ tg ∧ tg < (N : Int)) (hd : left[x]? = some d) (hd0 : 0 < d) (hd1 : d ≤ 1000) :
    Calls Tryz.prog 77 #[.agg #[.int .i64 f, .int .i64 lb, .int .i64 tg], .pointer (some ⟨ba, 0, none⟩), .pointer (some ⟨bl, 0, none⟩)] w (Says (nearE left x d (f, lb, tg)) w) := by
  obtain ⟨t, rfl⟩ : ∃ t : Nat, tg = (t : Int) := ⟨tg.toNat, by omega⟩
  have hxl : x < N := by have := (List.getElem?_eq_some_iff.1 hd).1; rw [hs.len] at this; exact this
  have hb := (Below.refl w.heap.size w).alloc (Nat.le_refl _) (.cells #[.int .i64 f, .int .i64 lb, .int .i64 (t : Int)] 70)
  have ke := heap_alloc_new w (.cells #[.int .i64 f, .int .i64 lb, .int .i64 (t : Int)] 70)
  have ka' := (hb.cell (p := ⟨ba, 0, none⟩) (cell_block ka)).trans ka
  have kl' := (hb.cell (p := ⟨bl, 0, none⟩) (cell_block kl)).trans kl
  have hs' := hs.below hb (.inr (Nat.le_refl _))
  obtain ⟨w1, hw1⟩ : ∃ w1, w1 = w.alloc (.cells #[.int .i64 f, .int .i64 lb, .int .i64 (t : Int)] 70) := ⟨_, rfl⟩
  rw [← hw1] at hb ke ka' kl' hs'
  obtain ⟨bb, oo, y, rfl, -, -, -, hy, c0, -⟩ := SlI.get hs' (show t < N by omega)
  obtain ⟨bb2, oo2, d2, e2, -, -, -, hd2, c1, -⟩ := SlI.get hs' hxl
  cases e2
  rw [hd] at hd2
  cases hd2
  have e0 : w1.cell? ⟨w.heap.size, 0, none⟩ = some (.int .i64 f) := (cell_of_row _ _ 0 _ _ (0, 0) ke).trans rfl
  have e2 : w1.cell? ⟨w.heap.size, 2, none⟩ = some (.int .i64 (t : Int)) := (cell_of_row _ _ 2 _ _ (0, 0) ke).trans rfl
  have hval : nearE left x d (f, lb, (t : Int)) = (decide (f = (x : Int)) && decide (y = d - 1)) := by
    unfold nearE
    simp only [Int.toNat_natCast, hy, Option.some.injEq]
  have t0 : (0 : Int) ≤ (t : Int) := by omega
  have t1 : (t : Int) < (N : Int) := ht.2
  have x0 : (0 : Int) ≤ (x : Int) := by omega
  have x1 : (x : Int) < (N : Int) := by omega
  have hwr : IntKind.i64.wrap (d - 1) = d - 1 := IntWalk.i64_in _ (by omega)
  replace hval := hide hval
  replace hb := hide hb
  replace ke := hide ke
  clear hy hd ka kl hs hs' ht
  by_cases hf : f = (x : Int)
  · subst hf
    have g1 : ((x : Int) == (x : Int)) = true := by simp
    by_cases hyd : y = d - 1
    · have g2 : (y == d - 1) = true := by rw [beq_iff_eq]; exact hyd
      have hv2 : Hid (nearE left x d ((x : Int), lb, (t : Int)) = true) := by show _ = _; rw [hval.out]; simp [hyd]
      clear hval
      replace hyd := hide hyd
      go_enter Tryz.func77, Tryz.ntmps77
      go_upto_region 1 with fail
      rw [← hw1]
      replace hw1 := hide hw1
      go_quiet (fail)
      go_wp2_with fail
      go_ret
      exact ⟨ret_b hv2.out, hb.out.os, hb.out.tape, hb.out.output, hb.out.size, hb.out.block⟩
    · have g2 : (y == d - 1) = false := by rw [beq_eq_false_iff_ne]; exact hyd
      have hv2 : Hid (nearE left x d ((x : Int), lb, (t : Int)) = false) := by show _ = _; rw [hval.out]; simp [hyd]
      clear hval
      replace hyd := hide hyd
      go_enter Tryz.func77, Tryz.ntmps77
      go_upto_region 1 with fail
      rw [← hw1]
      replace hw1 := hide hw1
      go_quiet (fail)
      go_wp2_with fail
      go_ret
      exact ⟨ret_b hv2.out, hb.out.os, hb.out.tape, hb.out.output, hb.out.size, hb.out.block⟩
  · have g1 : (f == (x : Int)) = false := by rw [beq_eq_false_iff_ne]; exact hf
    have hv2 : Hid (nearE left x d (f, lb, (t : Int)) = false) := by show _ = _; rw [hval.out]; simp [hf]
    clear hval
    replace hf := hide hf
    go_enter Tryz.func77, Tryz.ntmps77
    go_upto_region 1 with fail
    rw [← hw1]
    replace hw1 := hide hw1
    go_quiet (fail)
    go_wp2_with fail
    go_ret
    exact ⟨ret_b hv2.out, hb.out.os, hb.out.tape, hb.out.output, hb.out.size, hb.out.block⟩

theorem Sl.here {α : Type} {size : Nat} {f : α → List Value} {w : World} {lo hi n : Nat} {A : Option Addr} {l : List α} (h : Sl size f w lo hi A n l) : Sl size f w 0 w.heap.size A n l :=
  ⟨h.1, fun hn => by
    obtain ⟨b, off, e, g1, g2, g3, hc⟩ := h.2 hn
    exact ⟨b, off, e, Nat.zero_le _, g3, g3, hc⟩⟩
def lenVs (v : Value) : Nat := match v with | .slice _ n _ => n | _ => 0
/-- What shortest answers: the path to y, if there is one. -/
def ShoA (es : List Ed) (N ini y : Nat) (w : World) (e : Ending) (w' : World) : Prop := ∃ (d : Int) (left : List Int), DistIs (srcE [(y : Int)]) (arcE false es) N left ∧ left[ini]? = some d ∧ Below w.heap.size w w' ∧
  ((d < 0 ∧ e = .returned (.tuple #[.slice none 0 0, .bool false])) ∨ (0 ≤ d ∧ ∃ A n c p, e = .returned (.tuple #[.slice A n c, .bool true]) ∧ SlI w' w.heap.size w'.heap.size A n p ∧ (n : Int) = d ∧ WayE es ini p y))
theorem dist_le {es : List Ed} {N y x : Nat} {left : List Int} (hl : DistIs (srcE [(y : Int)]) (arcE false es) N left) {d : Int} (hd : left[x]? = some d) : -1 ≤ d := by
  by_cases h : 0 ≤ d
  · omega
  · have := ((hl.2 x d hd).2 (by omega)).1; omega

set_option maxRecDepth 100000 in
set_option maxHeartbeats 6400000 in
theorem shortest_calls (N ini : Nat) (A2 : Option Addr) (n2 c2 : Nat) (A3 : Option Addr) (n3 c3 : Nat) (A1 : Option Addr) (c1 : Nat) (es : List Ed) (y : Nat) (w : World) (lo hi lo1 hi1 : Nat)
    (t3 : SlE w lo hi A3 n3 es) (t1 : SlI w lo1 hi1 A1 1 [(y : Int)]) (hes : n3 ≤ 1048576) (hN1 : 1 ≤ N) (hN2 : N ≤ 40) (hini : ini < N) (hy : y < N)
    (hedge : ∀ e ∈ es, (0 ≤ e.1 ∧ e.1 < (N : Int)) ∧ (0 ≤ e.2.2 ∧ e.2.2 < (N : Int))) (hbd : ∀ left, DistIs (srcE [(y : Int)]) (arcE false es) N left → ∀ d, d ∈ left → d ≤ 1000) :
    Calls Tryz.prog 38 #[.agg #[.int .i64 (N : Int), .int .i64 (ini : Int), .slice A2 n2 c2, .slice A3 n3 c3], .slice A1 1 c1] w (ShoA es N ini y w) := by
  have hEi := hide elem_int
  have hb1 := (Below.refl w.heap.size w).alloc (Nat.le_refl _) (.cells #[.int .i64 (N : Int), .int .i64 (ini : Int), .slice A2 n2 c2, .slice A3 n3 c3] 27)
  have kt := heap_alloc_new w (.cells #[.int .i64 (N : Int), .int .i64 (ini : Int), .slice A2 n2 c2, .slice A3 n3 c3] 27)
  have hz1 : w.heap.size + 1 = (w.alloc (.cells #[.int .i64 (N : Int), .int .i64 (ini : Int), .slice A2 n2 c2, .slice A3 n3 c3] 27)).heap.size := by simp
  obtain ⟨w1, hw1⟩ : ∃ w1, w1 = w.alloc (.cells #[.int .i64 (N : Int), .int .i64 (ini : Int), .slice A2 n2 c2, .slice A3 n3 c3] 27) := ⟨_, rfl⟩
  rw [← hw1] at hb1 kt hz1
  have kt1 : Hid (LtsBox w1 w.heap.size (N : Int) (ini : Int) A2 n2 c2 A3 n3 c3) := kt
  have t3' := t3.here.below hb1 (.inl (Nat.le_refl _))
  have q1 := hide (distancesB_calls N (ini : Int) (.slice A2 n2 c2) A3 n3 c3 A1 1 c1 es [(y : Int)] w1 _ _ lo1 hi1 t3' (t1.below hb1 (.inr (Nat.le_refl _))) hes (by omega) hN1 hN2 hedge (fun v hv => by rw [List.mem_singleton.1 hv]; omega))
  have hlen3 := t3.len
  replace t3' := hide t3'
  replace hbd := hide hbd
  replace hedge := hide hedge
  have b0 := kt1.out.c0
  have b1 := kt1.out.c1
  have b2 := kt1.out.c2
  have b3 := kt1.out.c3
  have hz12 : w.heap.size < w1.heap.size := by omega
  replace hz1 := hide hz1
  clear kt t3 t1
  go_enter Tryz.func38, Tryz.ntmps38
  go_upto_region 1 with fail
  rw [← hw1]
  replace hw1 := hide hw1
  go_wp2_with fail
  refine q1.out.mono ?_
  rintro e w2 ⟨AL, cL, rfl, hL, hdist, hb2⟩
  obtain ⟨left, hleft⟩ : ∃ left, distF false N es [(y : Int)] = left := ⟨_, rfl⟩
  rw [hleft] at hL hdist
  have hlenL := hdist.1
  clear b0 b1 b2 b3
  have hz2 := hb2.size
  -- the boxes of left and at
  have hbA := (Below.refl w2.heap.size w2).alloc (Nat.le_refl _) (.cells #[.slice AL N cL] 31)
  have kL0 := heap_alloc_new w2 (.cells #[.slice AL N cL] 31)
  have hz3 : (w2.alloc (.cells #[.slice AL N cL] 31)).heap.size = w2.heap.size + 1 := by simp
  obtain ⟨w3, hw3⟩ : ∃ w3, w3 = w2.alloc (.cells #[.slice AL N cL] 31) := ⟨_, rfl⟩
  rw [← hw3] at hbA kL0 hz3
  obtain ⟨ba, hba⟩ : ∃ ba, ba = w3.heap.size := ⟨_, rfl⟩
  have hbB := hbA.alloc hbA.size (.cells #[.int .i64 (ini : Int)] 2)
  have kL : (w3.alloc (.cells #[.int .i64 (ini : Int)] 2)).heap[w2.heap.size]? = some (.cells #[.slice AL N cL] 31 (0, 0)) := (Below.heap_alloc _ _ _ (by omega)).trans kL0
  have kA := heap_alloc_new w3 (.cells #[.int .i64 (ini : Int)] 2)
  rw [← hba] at kA
  have hz4 : (w3.alloc (.cells #[.int .i64 (ini : Int)] 2)).heap.size = w2.heap.size + 2 := by rw [World.size_alloc]; omega
  obtain ⟨w4, hw4⟩ : ∃ w4, w4 = w3.alloc (.cells #[.int .i64 (ini : Int)] 2) := ⟨_, rfl⟩
  rw [← hw4] at hbB kL kA hz4
  have c13 := (kt1.out.below (hb2.trans (hbA.mono hz2)) kt1.out.lt).c1
  have hb4 := hide (hb1.trans ((hb2.trans (hbB.mono hz2)).mono (by omega)))
  have kt4 := hide (kt1.out.below (hb2.trans (hbB.mono hz2)) kt1.out.lt)
  have hL4 := hide (hL.below hbB (.inl (Nat.le_refl _)))
  have t34 := hide (t3'.out.below (hb2.trans (hbB.mono hz2)) (.inl (Nat.le_of_lt hz12)))
  have hba1 : w2.heap.size < ba := by omega
  have hba4 : ba < w4.heap.size := by omega
  have hz24 : w2.heap.size < w4.heap.size := by omega
  have hz02 : w.heap.size < w2.heap.size := by omega
  have hfl : Hid (∀ d, d ∈ left → d ≤ 1000) := hbd.out left hdist
  replace kL := hide kL
  replace kA := hide kA
  replace hz4 := hide hz4
  replace hz3 := hide hz3
  replace hdist := hide hdist
  replace hleft := hide hleft
  clear hb1 hb2 hbA hbB kL0 kt1 t3' q1 hL hbd
  obtain ⟨gL, oL, rfl, -, hgL1, hgL2, -⟩ := hL4.out.at_ (show 0 < N by omega)
  go_upto_region 2 with fail
  rw [← hw3]
  replace hw3 := hide hw3
  go_upto_region 3 with fail
  rw [← hw4, ← hba]
  replace hw4 := hide hw4
  replace hba := hide hba
  clear c13
  obtain ⟨d, hd⟩ : ∃ d, left[ini]? = some d := ⟨_, List.getElem?_eq_getElem (by omega)⟩
  have hdm := dist_le hdist.out hd
  have s4 : w4.cell? ⟨w2.heap.size, 0, none⟩ = some (.slice (some ⟨gL, oL, none⟩) N cL) := (cell_of_row _ _ 0 _ _ (0, 0) kL.out).trans rfl
  have a4 : w4.cell? ⟨ba, 0, none⟩ = some (.int .i64 (ini : Int)) := (cell_of_row _ _ 0 _ _ (0, 0) kA.out).trans rfl
  obtain ⟨gL2, oL2, d', e', -, -, -, hd', cd, -⟩ := SlI.get hL4.out hini
  cases e'
  rw [hd] at hd'
  cases hd'
  have i0 : (0 : Int) ≤ (ini : Int) := by omega
  have i1 : (ini : Int) < (N : Int) := by omega
  by_cases hneg : d < 0
  · replace hd := hide hd
    go_wp2_with fail
    go_ret2
    exact ⟨d, left, hdist.out, hd.out, hb4.out, .inl ⟨hneg, rfl⟩⟩
  · obtain ⟨dn, rfl⟩ : ∃ dn : Nat, d = (dn : Int) := ⟨d.toNat, by omega⟩
    have hdn : dn ≤ 1000 := by have := hfl.out _ (List.mem_of_getElem? hd); omega
    replace hd := hide hd
    go_wp2_with fail
    clear s4 a4 cd i0 i1
    go_loopw [8] (fun v wr => ∃ (x m c : Nat) (A : Option Addr) (p : List Int) (d : Nat), v = .slice A m c ∧ x < N ∧ d + m = dn ∧ Hid (left[x]? = some (d : Int)) ∧ Hid (WayE es ini p x) ∧ Hid (Own 1 iv wr w4.heap.size 2 A m c p) ∧ Hid (wr.heap[ba]? = some (.cells #[.int .i64 (x : Int)] 2 (0, 0))) ∧ Hid (Only ba (ba + 1) w4 wr)) (fun v _ => dn - lenVs v)
    case atStart => exact ⟨ini, 0, 0, none, [], dn, rfl, hini, rfl, hd.out, rfl, Own.nil_ _ _ _, kA.out, Only.refl _ _ _⟩
    case round =>
      obtain ⟨x, m, c, A, p, d, rfl, hx, hdm2, hdx, hW, hO, hA, hon⟩ := hrel
      have hzr := hon.out.size
      have kLr : wr.heap[w2.heap.size]? = _ := (hon.out.block _ hz24 (by omega)).trans kL.out
      have ktr := hide (kt4.out.only hon.out (by omega))
      have s4 : wr.cell? ⟨w2.heap.size, 0, none⟩ = some (.slice (some ⟨gL, oL, none⟩) N cL) := (cell_of_row _ _ 0 _ _ (0, 0) kLr).trans rfl
      have a4 : wr.cell? ⟨ba, 0, none⟩ = some (.int .i64 (x : Int)) := (cell_of_row _ _ 0 _ _ (0, 0) hA.out).trans rfl
      have fa : wr.frozen? ⟨ba, 0, none⟩ = false := frozen_of_row _ _ 0 _ _ hA.out
      have hLr := hL4.out.only hon.out (.inl (by omega))
      obtain ⟨gL2, oL2, d', e', -, -, -, hd', cd, -⟩ := SlI.get hLr hx
      cases e'
      rw [hdx.out] at hd'
      cases hd'
      have i0 : (0 : Int) ≤ (x : Int) := by omega
      have i1 : (x : Int) < (N : Int) := by omega
      by_cases hpos : 0 < d
      · have p1 : (0 : Int) < (d : Int) := by omega
        have hd1000 : (d : Int) ≤ 1000 := hfl.out _ (List.mem_of_getElem? hdx.out)
        have b3 := ktr.out.c3
        have t3r := t34.out.only hon.out (.inl (by omega))
        have qI := indexFuncG_calls 77 #[.pointer (some ⟨ba, 0, none⟩), .pointer (some ⟨w2.heap.size, 0, none⟩)] (nearE left x (d : Int)) A3 n3 c3 es wr _ _ t3r hes
          (fun v W => by kernel_rfl)
          (fun f lb tg hm W hW => shortest1_calls f lb tg ba w2.heap.size x _ N cL left (d : Int) W _ _ ((hW.cell (p := ⟨ba, 0, none⟩) (by show ba < _; omega)).trans a4) ((hW.cell (p := ⟨w2.heap.size, 0, none⟩) (by show w2.heap.size < _; omega)).trans s4) (hLr.below hW (.inl (by omega))) hN2 (hedge.out _ hm).2 hdx.out p1 hd1000)
        have hex := near_one hdist.out (fun e he => (hedge.out e he).2) hdx.out p1
        replace qI := hide qI
        go_wp2_with fail
        refine qI.out.mono ?_
        rintro e w5 ⟨i, rfl, hf, hb5⟩
        rcases hf with ⟨-, ha⟩ | ⟨k, rfl, hk, -, ⟨f, lb, tg⟩, hek, hge⟩
        · obtain ⟨e, he, hne⟩ := hex
          rw [List.any_eq_false] at ha
          exact absurd hne (ha e he)
        unfold nearE at hge
        rw [Bool.and_eq_true, decide_eq_true_eq, decide_eq_true_eq] at hge
        obtain ⟨hge1, hge2⟩ := hge
        (try dsimp only at hge1 hge2)
        have hin := (hedge.out _ (List.mem_of_getElem? hek)).2
        (try dsimp only at hin)
        obtain ⟨z, rfl⟩ : ∃ z : Nat, tg = (z : Int) := ⟨tg.toNat, by omega⟩
        rw [Int.toNat_natCast] at hge2
        have hkn : k < n3 := by omega
        have hz5 := hb5.size
        have hO5 := hide (hO.out.keep (w' := w5) fun g e => hb5.block g (hO.out.lt g e).2)
        have hon5 := hide (Only.belowAt hon.out hb5 hzr)
        have hza : w4.heap.size ≤ (w5.alloc (.cells #[.int .i64 (k : Int)] 2)).heap.size := by rw [World.size_alloc]; omega
        have hOa := hide (hO5.out.alloc (.cells #[.int .i64 (k : Int)] 2))
        have hona := hide (hon5.out.alloc' (.cells #[.int .i64 (k : Int)] 2))
        have hrow := hide (fun q (e : (Value.slice A m c).ownBlock = some q) => (hOa.out.lt q e).1)
        have hlen3' : es.length = n3 := hlen3
        replace hb5 := hide hb5
        clear qI hex s4 a4 fa cd b3 kLr hLr t3r
        replace hek := hide hek
        replace hge2 := hide hge2
        replace hge1 := hide hge1
        go_upto_region 9 with (first | (at_builtin; (with_reducible refine wpList_app rfl (.tmp 29) (.tmp 31) rfl hEi.out flat_iv rfl hOa.out rfl (Sl.lit1' w5 2 (k : Int) _ rfl 1 _ ?d0) ?d1 hza ?_); rotate_right; intro A6 c6 w6 hown6 hgr6 hb6 hat6))
        case d0 => rfl
        case d1 => omega
        have hon6 := hide (hona.out.grow hgr6 (fun q e => hrow.out q e))
        have hb5' := hb5.out
        have hA5 : w5.heap[ba]? = _ := (hb5'.block ba (by omega)).trans hA.out
        have hA6 : w6.heap[ba]? = _ := (hgr6.block ba (by rw [World.size_alloc]; omega) (fun e => by have := hrow.out ba e.symm; omega)).trans ((Below.heap_alloc _ _ _ (by omega)).trans hA5)
        have fa : w6.frozen? ⟨ba, 0, none⟩ = false := frozen_of_row _ _ 0 _ _ hA6
        have a6 : w6.cell? ⟨ba, 0, none⟩ = some (.int .i64 (x : Int)) := (cell_of_row _ _ 0 _ _ (0, 0) hA6).trans rfl
        have b3 := (kt4.out.only hon6.out (by omega)).c3
        obtain ⟨g3, o3, f', lb', tg', rfl, -, -, -, hx3, y0, y1, y2, -⟩ := SlE.get (t34.out.only hon6.out (.inl (by omega))) hkn
        rw [hek.out] at hx3
        cases hx3
        have k0 : (0 : Int) ≤ (k : Int) := by omega
        have k1 : (k : Int) < (n3 : Int) := by omega
        have hA7 : Hid ((w6.setCell ⟨ba, 0, none⟩ (.int .i64 (z : Int))).heap[ba]? = some (.cells #[.int .i64 (z : Int)] 2 (0, 0))) := heap_setCell_same w6 ba 0 _ _ (.int .i64 (z : Int)) hA6
        have hO7 := hide (hown6.keep (w' := w6.setCell ⟨ba, 0, none⟩ (.int .i64 (z : Int))) fun q e => Below.heap_setCell _ _ _ _ (by have := (hown6.lt q e).1; show q ≠ ba; omega))
        have hon7 := hide (hon6.out.setCell (p := ⟨ba, 0, none⟩) (Nat.le_refl _) (Nat.lt_succ_self _) (.int .i64 (z : Int)))
        have hzN : z < N := by omega
        obtain ⟨d', rfl⟩ : ∃ d', d = d' + 1 := ⟨d - 1, by omega⟩
        have hdz : Hid (left[z]? = some (d' : Int)) := by show _ = _; rw [hge2.out]; congr 1; omega
        have hW7 := hide (hW.out.snoc (z := z) (by omega : (0 : Int) ≤ (k : Int)) (by rw [Int.toNat_natCast]; exact hek.out) hge1.out rfl)
        replace hA6 := hide hA6
        replace hA5 := hide hA5
        clear hown6 hgr6 hb6 hat6 hOa hona hrow hb5' hO hW hA hon hO5 hon5
        go_wp2_with fail
        go_roundw
        case rel => exact ⟨z, m + 1, c6, A6, _, d', rfl, hzN, by omega, hdz.out, hW7.out, hO7.out, hA7.out, hon7.out⟩
        case measure => simp [lenVs]; omega
      · obtain rfl : d = 0 := by omega
        have p1 : ¬ (0 : Int) < ((0 : Nat) : Int) := by omega
        have hxy := dist_zero hdist.out hdx.out
        subst hxy
        have hbF : Hid (Below w.heap.size w wr) := ⟨hon.out.os.trans hb4.out.os, hon.out.tape.trans hb4.out.tape, hon.out.output.trans hb4.out.output, Nat.le_trans hb4.out.size hzr, fun q hq => (hon.out.block q (by omega) (by omega)).trans (hb4.out.block q hq)⟩
        have hls := hide ((hO.out.sl flat_iv).more (show w.heap.size ≤ w4.heap.size by omega) (Nat.le_refl _))
        obtain rfl : m = dn := by omega
        go_wp2_with fail
        go_ret2
        exact ⟨_, left, hdist.out, hd.out, hbF.out, .inr ⟨by omega, A, _, c, p, rfl, hls.out, rfl, hW.out⟩⟩

end Go.Proofs.YtcdhgabcajehnaaGreatDoor

namespace Go.Proofs.YtcdhgabcajehnaaGreatDoor
set_option linter.unusedVariables false
set_option linter.unusedSimpArgs false

/-- The numbers of a list, each once, in the order in which they come. -/
def firsts : List Int → List Int → List Int
  | L, [] => L
  | L, x :: l => firsts (if x ∈ L then L else L ++ [x]) l
theorem firsts_mem {L l : List Int} {x : Int} : x ∈ firsts L l ↔ x ∈ L ∨ x ∈ l := by
  induction l generalizing L with
  | nil => simp [firsts]
  | cons t l ih =>
    unfold firsts
    rw [ih]
    split
    · rename_i h
      constructor
      · rintro (g | g)
        · exact .inl g
        · exact .inr (List.mem_cons_of_mem _ g)
      · rintro (g | g)
        · exact .inl g
        · rcases List.mem_cons.1 g with rfl | g
          · exact .inl h
          · exact .inr g
    · simp only [List.mem_append, List.mem_singleton, List.mem_cons, or_assoc, List.not_mem_nil, false_or]
/-- Block numbers in the order of first occurrence. -/
def normF (l : List Int) : List Int := l.map fun x => ((firsts [] l).idxOf x : Int)
end Go.Proofs.YtcdhgabcajehnaaGreatDoor

namespace Go.Proofs
open Go.Shelf
def Tryz.laysCompactI_ren : Go.Shelf.Ren := ⟨fun | 43 => 67 | n => n, fun | 22 => 31 | 23 => 2 | 3 => 3 | 4 => 4 | 0 => 0 | n => n, fun | n => n⟩
theorem Tryz.laysCompactI : Go.Proofs.SlLaysN.n43 Tryz.prog Tryz.laysCompactI_ren := {
  mixed := by kernel_rfl
  f43 := ⟨Tryz.f67.name, by decide, Tryz.func67.trans (congrArg some (by kernel_rfl))⟩
  t0 := Tryz.underlying0
  a0 := Tryz.isAgg0
  z0 := Tryz.sizeOf0
  v0 := Tryz.zeroValue0
  t3 := Tryz.underlying3
  a3 := Tryz.isAgg3
  z3 := Tryz.sizeOf3
  v3 := Tryz.zeroValue3
  t4 := Tryz.underlying4
  a4 := Tryz.isAgg4
  z4 := Tryz.sizeOf4
  v4 := Tryz.zeroValue4
  t22 := Tryz.underlying31
  a22 := Tryz.isAgg31
  z22 := Tryz.sizeOf31
  v22 := Tryz.zeroValue31
  t23 := Tryz.underlying2
  a23 := Tryz.isAgg2
  z23 := Tryz.sizeOf2
  v23 := Tryz.zeroValue2
  i23 := by kernel_rfl }
open Go.RowKit Go.Lib Go.Sort in
theorem Tryz.slices_Compact_int (blk off cap : Nat) (zs : List Int) (w : World) (hH : Holds (Value.int .i64) w blk off zs.toArray) (hsz : zs.length ≤ 9223372036854775807) (hcap : zs.length ≤ cap) :
    Calls Tryz.prog 67 #[.slice (some ⟨blk, off, none⟩) zs.length cap] w fun e w' => e = .returned (.slice (some ⟨blk, off, none⟩) (Lib.compact zs).length cap) ∧ ∃ q, w' = putRow (Value.int .i64) (Sort.ahead w q) blk off (Lib.compact zs ++ List.replicate (zs.length - (Lib.compact zs).length) 0).toArray := AnyG.slices_Compact_int Tryz.laysCompactI blk off cap zs w hH hsz hcap
open Go.RowKit Go.Lib Go.Sort in
theorem Tryz.slices_Compact_int_empty (a : Option Addr) (cap : Nat) (w : World) :
    Calls Tryz.prog 67 #[.slice a 0 cap] w fun e w' => e = .returned (.slice a 0 cap) ∧ w' = w := AnyG.slices_Compact_int_empty Tryz.laysCompactI a cap w
def Tryz.laysSortI_ren : Go.Shelf.Ren := ⟨fun | 5 => 66 | 8 => 106 | 7 => 105 | 19 => 135 | 20 => 136 | 10 => 126 | 11 => 127 | 12 => 128 | 13 => 129 | 14 => 130 | 15 => 131 | 16 => 132 | 17 => 133 | 18 => 134 | 30 => 161 | 31 => 162 | 32 => 163 | 33 => 164 | 34 => 165 | 35 => 125 | 40 => 186 | n => n, fun | 23 => 31 | 25 => 2 | 3 => 3 | 32 => 120 | 22 => 31 | 0 => 0 | 44 => 150 | 46 => 86 | 4 => 4 | 36 => 142 | 35 => 141 | 41 => 147 | 5 => 5 | 9 => 9 | 53 => 175 | 57 => 179 | 63 => 196 | 64 => 197 | n => n, fun | n => n⟩
theorem Tryz.laysSortI : Go.Proofs.SlLaysM.n5 Tryz.prog Tryz.laysSortI_ren := {
  mixed := by kernel_rfl
  f5 := ⟨Tryz.f66.name, by decide, Tryz.func66.trans (congrArg some (by kernel_rfl))⟩
  f7 := ⟨Tryz.f105.name, by decide, Tryz.func105.trans (congrArg some (by kernel_rfl))⟩
  f8 := Tryz.func106.trans (congrArg some (by kernel_rfl))
  f10 := ⟨Tryz.f126.name, by decide, Tryz.func126.trans (congrArg some (by kernel_rfl))⟩
  f11 := ⟨Tryz.f127.name, by decide, Tryz.func127.trans (congrArg some (by kernel_rfl))⟩
  f12 := ⟨Tryz.f128.name, by decide, Tryz.func128.trans (congrArg some (by kernel_rfl))⟩
  f13 := ⟨Tryz.f129.name, by decide, Tryz.func129.trans (congrArg some (by kernel_rfl))⟩
  f14 := ⟨Tryz.f130.name, by decide, Tryz.func130.trans (congrArg some (by kernel_rfl))⟩
  f15 := ⟨Tryz.f131.name, by decide, Tryz.func131.trans (congrArg some (by kernel_rfl))⟩
  f16 := ⟨Tryz.f132.name, by decide, Tryz.func132.trans (congrArg some (by kernel_rfl))⟩
  f17 := ⟨Tryz.f133.name, by decide, Tryz.func133.trans (congrArg some (by kernel_rfl))⟩
  f18 := ⟨Tryz.f134.name, by decide, Tryz.func134.trans (congrArg some (by kernel_rfl))⟩
  f19 := Tryz.func135.trans (congrArg some (by kernel_rfl))
  f20 := Tryz.func136.trans (congrArg some (by kernel_rfl))
  f30 := ⟨Tryz.f161.name, by decide, Tryz.func161.trans (congrArg some (by kernel_rfl))⟩
  f31 := Tryz.func162.trans (congrArg some (by kernel_rfl))
  f32 := Tryz.func163.trans (congrArg some (by kernel_rfl))
  f33 := ⟨Tryz.f164.name, by decide, Tryz.func164.trans (congrArg some (by kernel_rfl))⟩
  f34 := ⟨Tryz.f165.name, by decide, Tryz.func165.trans (congrArg some (by kernel_rfl))⟩
  f35 := ⟨Tryz.f125.name, by decide, Tryz.func125.trans (congrArg some (by kernel_rfl))⟩
  f40 := ⟨Tryz.f186.name, by decide, Tryz.func186.trans (congrArg some (by kernel_rfl))⟩
  t0 := Tryz.underlying0
  a0 := Tryz.isAgg0
  z0 := Tryz.sizeOf0
  v0 := Tryz.zeroValue0
  t3 := Tryz.underlying3
  a3 := Tryz.isAgg3
  z3 := Tryz.sizeOf3
  v3 := Tryz.zeroValue3
  t4 := Tryz.underlying4
  a4 := Tryz.isAgg4
  z4 := Tryz.sizeOf4
  v4 := Tryz.zeroValue4
  t5 := Tryz.underlying5
  a5 := Tryz.isAgg5
  z5 := Tryz.sizeOf5
  v5 := Tryz.zeroValue5
  t9 := Tryz.underlying9
  a9 := Tryz.isAgg9
  z9 := Tryz.sizeOf9
  v9 := Tryz.zeroValue9
  t22 := Tryz.underlying31
  a22 := Tryz.isAgg31
  z22 := Tryz.sizeOf31
  v22 := Tryz.zeroValue31
  t23 := Tryz.underlying31
  a23 := Tryz.isAgg31
  z23 := Tryz.sizeOf31
  v23 := Tryz.zeroValue31
  t25 := Tryz.underlying2
  a25 := Tryz.isAgg2
  z25 := Tryz.sizeOf2
  v25 := Tryz.zeroValue2
  t32 := Tryz.underlying120
  a32 := Tryz.isAgg120
  z32 := Tryz.sizeOf120
  v32 := Tryz.zeroValue120
  t35 := Tryz.underlying141
  a35 := Tryz.isAgg141
  z35 := Tryz.sizeOf141
  v35 := Tryz.zeroValue141
  t36 := Tryz.underlying142
  a36 := Tryz.isAgg142
  z36 := Tryz.sizeOf142
  v36 := Tryz.zeroValue142
  t41 := Tryz.underlying147
  a41 := Tryz.isAgg147
  z41 := Tryz.sizeOf147
  v41 := Tryz.zeroValue147
  t44 := Tryz.underlying150
  a44 := Tryz.isAgg150
  z44 := Tryz.sizeOf150
  v44 := Tryz.zeroValue150
  t46 := Tryz.underlying86
  a46 := Tryz.isAgg86
  z46 := Tryz.sizeOf86
  v46 := Tryz.zeroValue86
  t53 := Tryz.underlying175
  a53 := Tryz.isAgg175
  z53 := Tryz.sizeOf175
  v53 := Tryz.zeroValue175
  t57 := Tryz.underlying179
  a57 := Tryz.isAgg179
  z57 := Tryz.sizeOf179
  v57 := Tryz.zeroValue179
  t63 := Tryz.underlying196
  a63 := Tryz.isAgg196
  z63 := Tryz.sizeOf196
  v63 := Tryz.zeroValue196
  t64 := Tryz.underlying197
  a64 := Tryz.isAgg197
  z64 := Tryz.sizeOf197
  v64 := Tryz.zeroValue197 }
open Go.RowKit Go.Lib Go.Sort in
theorem Tryz.slices_Sort_int (blk off cap : Nat) (zs : List Int) (w : World) (hH : Holds (Value.int .i64) w blk off zs.toArray) (hblk : blk < w.heap.size) (hsz : zs.length < 4611686018427387904) :
    Calls Tryz.prog 66 #[.slice (some ⟨blk, off, none⟩) zs.length cap] w fun e w' =>
      e = .returned (.tuple #[]) ∧ ∃ n os, w' = grow (putRow (Value.int .i64) (Sort.ahead w n) blk off (zs.mergeSort fun x y => decide (x ≤ y)).toArray) os := AnyM.slices_Sort_int Tryz.laysSortI blk off cap zs w hH hblk hsz
open Go.RowKit Go.Lib Go.Sort in
theorem Tryz.slices_Sort_int_none (p : Option Addr) (cap : Nat) (w : World) :
    Calls Tryz.prog 66 #[.slice p 0 cap] w fun e w' => e = .returned (.tuple #[]) ∧ w' = w := AnyM.slices_Sort_int_none Tryz.laysSortI p cap w
end Go.Proofs

namespace Go.Proofs.YtcdhgabcajehnaaGreatDoor
open Go.RowKit Go.Sort Go.Lib
set_option linter.unusedVariables false
set_option linter.unusedSimpArgs false

def sortI (l : List Int) : List Int := l.mergeSort fun x y => decide (x ≤ y)
theorem sortI_nil : sortI [] = [] := by simp [sortI]
theorem sortI_len (l : List Int) : (sortI l).length = l.length := List.length_mergeSort _
theorem sortI_mem {l : List Int} {x : Int} : x ∈ sortI l ↔ x ∈ l := List.mem_mergeSort
theorem iv_map (l : List Int) : l.flatMap iv = l.map (Value.int .i64) := by
  induction l with
  | nil => rfl
  | cons x l ih => rw [List.flatMap_cons, ih]; rfl

theorem compact_mem {l : List Int} {x : Int} : x ∈ Lib.compact l ↔ x ∈ l := by
  unfold Lib.compact Lib.compactUpTo
  rw [List.mem_map]
  constructor
  · rintro ⟨k, hk, rfl⟩
    have hk' := List.mem_range.1 (List.mem_filter.1 hk).1
    rw [getElem!_pos _ k (by simpa using hk')]
    simp
  · intro hx
    obtain ⟨k, hk, rfl⟩ := List.mem_iff_getElem.1 hx
    have key : ∀ k, (hk : k < l.length) → ∃ a, a ∈ (List.range l.length).filter (Lib.keeps l.toArray) ∧ l.toArray[a]! = l[k] := by
      intro k
      induction k with
      | zero => exact fun hk => ⟨0, List.mem_filter.2 ⟨List.mem_range.2 hk, by simp [Lib.keeps]⟩, by rw [getElem!_pos _ 0 (by simpa using hk)]; simp⟩
      | succ k ih =>
        intro hk
        by_cases h : l.toArray[k + 1]! = l.toArray[k]!
        · obtain ⟨a, ha, e⟩ := ih (by omega)
          refine ⟨a, ha, ?_⟩
          rw [e]
          rw [getElem!_pos _ (k + 1) (by simpa using hk), getElem!_pos _ k (by simp; omega)] at h
          simpa using h.symm
        · exact ⟨k + 1, List.mem_filter.2 ⟨List.mem_range.2 hk, Lib.keeps_pos (by simpa using h)⟩, by rw [getElem!_pos _ (k + 1) (by simpa using hk)]; simp⟩
    exact key k hk
theorem compact_len (l : List Int) : (Lib.compact l).length ≤ l.length := by
  unfold Lib.compact Lib.compactUpTo
  rw [List.length_map]
  exact Nat.le_trans (List.length_filter_le _ _) (by simp)

section
variable {w : World} {base g n c q : Nat} {e : TypeId} {l d : List Int} {os : Array Obj}

theorem put_block (w : World) (g q : Nat) (d : List Int) (os : Array Obj) (hg : g < w.heap.size) :
    (grow (putRow (Value.int .i64) (Sort.ahead w q) g 0 d.toArray) os).heap[g]? = (w.heap[g]?).map (onCells (Go.Sort.putCells (Value.int .i64) 0 d.toArray)) := by
  rw [heap_grow_old _ _ (by simpa [putRow, mapBlock, Sort.ahead] using hg)]
  simp [putRow, mapBlock, Sort.ahead, Array.getElem?_modify]

theorem put_grown (w : World) (g q : Nat) (d : List Int) (os : Array Obj) : w.grownBy (grow (putRow (Value.int .i64) (Sort.ahead w q) g 0 d.toArray) os) (some g) := by
  refine ⟨rfl, rfl, rfl, by simp [putRow, mapBlock, Sort.ahead], fun k hk hne => ?_⟩
  rw [heap_grow_old _ _ (by simpa [putRow, mapBlock, Sort.ahead] using hk)]
  have hne' : g ≠ k := fun h => hne (by rw [h])
  simp [putRow, mapBlock, Sort.ahead, Array.getElem?_modify, hne']

theorem Own.put (h : Own 1 iv w base e (some ⟨g, 0, none⟩) n c l) (hd : d.length = n) {m : Nat} (hm : m ≤ n) :
    Own 1 iv (grow (putRow (Value.int .i64) (Sort.ahead w q) g 0 d.toArray) os) base e (some ⟨g, 0, none⟩) m c (d.take m) := by
  rcases h.2.2 with ⟨hv, -⟩ | ⟨g', cap, cur, hv, hb, hg, hnc, hcm, hcs, htake⟩
  · cases hv
  · cases hv
    have hlt : g < w.heap.size := (Array.getElem?_eq_some_iff.1 hg).1
    have hl : (d.take m).length = m := by rw [List.length_take]; omega
    refine ⟨hl, by rw [flat_length flat_iv, hl], .inr ⟨g, c, Go.Sort.putCells (Value.int .i64) 0 d.toArray cur, rfl, hb, ?_, by omega, hcm, by simp [Go.Sort.putCells, hcs], ?_⟩⟩
    · rw [put_block _ _ _ _ _ hlt, hg]
      rfl
    · rw [iv_map]
      apply List.ext_getElem?
      intro k
      by_cases hk : k < m
      · have hkc : k < cur.size := by omega
        have hkd : k < d.length := by omega
        rw [List.getElem?_take, if_pos (by omega), List.getElem?_map, List.getElem?_take, if_pos hk, Array.getElem?_toList, List.getElem?_eq_getElem hkd]
        simp only [Go.Sort.putCells, Array.getElem?_mapIdx, Array.getElem?_eq_getElem hkc, Option.map_some]
        rw [if_pos ⟨Nat.zero_le _, by simp; omega⟩, Nat.sub_zero, getElem!_pos _ k (by simpa using hkd)]
        simp
      · rw [List.getElem?_eq_none (by simp; omega), List.getElem?_eq_none (by simp; omega)]

theorem Own.holds (h : Own 1 iv w base e (some ⟨g, 0, none⟩) n c l) : Holds (Value.int .i64) w g 0 l.toArray := by
  intro j hj
  have hj' : j < l.length := by simpa using hj
  have hs := h.sl flat_iv
  have hn := h.len
  obtain ⟨b', off', e', -, -, -, hc⟩ := hs.at_ (by omega)
  cases e'
  have := hc j l[j] (List.getElem?_eq_getElem hj') 0 (.int .i64 l[j]) rfl
  rw [getElem!_pos _ j hj]
  simpa using this
end

section
variable {w : World} {base n c : Nat} {A : Option Addr} {l : List Int}

theorem sortI_calls (h : Own 1 iv w base 2 A n c l) (hn : n ≤ 1000000000) :
    Calls Tryz.prog 66 #[.slice A n c] w fun e w' => e = .returned (.tuple #[]) ∧ Own 1 iv w' base 2 A n c (sortI l) ∧ w.grownBy w' (Value.slice A n c).ownBlock := by
  rcases h.2.2 with ⟨hv, hn0⟩ | ⟨g, cap, cur, hv, hb, hg, hnc, hcm, hcs, htake⟩
  · cases hv
    have hl := List.eq_nil_of_length_eq_zero h.len
    subst hl
    refine (Tryz.slices_Sort_int_none none 0 w).mono ?_
    rintro e w' ⟨rfl, rfl⟩
    rw [sortI_nil]
    exact ⟨rfl, h, ⟨rfl, rfl, rfl, Nat.le_refl _, fun _ _ _ => rfl⟩⟩
  · cases hv
    have hlt : g < w.heap.size := (Array.getElem?_eq_some_iff.1 hg).1
    have hq := Tryz.slices_Sort_int g 0 c l w h.holds hlt (by have := h.len; omega)
    rw [h.len] at hq
    refine hq.mono ?_
    rintro e w' ⟨rfl, q, os, rfl⟩
    refine ⟨rfl, ?_, put_grown _ _ _ _ _⟩
    have := h.put (d := sortI l) (q := q) (os := os) ((sortI_len l).trans h.len) (Nat.le_refl n)
    rwa [List.take_of_length_le (by rw [sortI_len, h.len]; exact Nat.le_refl _)] at this

theorem compactI_calls (h : Own 1 iv w base 2 A n c l) (hn : n ≤ 1000000000) :
    Calls Tryz.prog 67 #[.slice A n c] w fun e w' => e = .returned (.slice A (Lib.compact l).length c) ∧ Own 1 iv w' base 2 A (Lib.compact l).length c (Lib.compact l) ∧ w.grownBy w' (Value.slice A n c).ownBlock := by
  rcases h.2.2 with ⟨hv, hn0⟩ | ⟨g, cap, cur, hv, hb, hg, hnc, hcm, hcs, htake⟩
  · cases hv
    have hl := List.eq_nil_of_length_eq_zero h.len
    subst hl
    refine (Tryz.slices_Compact_int_empty none 0 w).mono ?_
    rintro e w' ⟨rfl, rfl⟩
    exact ⟨rfl, h, ⟨rfl, rfl, rfl, Nat.le_refl _, fun _ _ _ => rfl⟩⟩
  · cases hv
    have hlt : g < w.heap.size := (Array.getElem?_eq_some_iff.1 hg).1
    have hlen := compact_len l
    have hq := Tryz.slices_Compact_int g 0 c l w h.holds (by have := h.len; omega) (by have := h.len; omega)
    rw [h.len] at hq hlen
    refine hq.mono ?_
    rintro e w' ⟨rfl, q, rfl⟩
    have hd : (Lib.compact l ++ List.replicate (n - (Lib.compact l).length) 0).length = n := by simp; omega
    have h1 := h.put (d := Lib.compact l ++ List.replicate (n - (Lib.compact l).length) 0) (q := q) (os := #[]) hd hlen
    have h2 := put_grown w g q (Lib.compact l ++ List.replicate (n - (Lib.compact l).length) 0) #[]
    rw [grow_empty] at h1 h2
    rw [List.take_left'  rfl] at h1
    exact ⟨rfl, h1, h2⟩
end

end Go.Proofs.YtcdhgabcajehnaaGreatDoor

namespace Go.Proofs.YtcdhgabcajehnaaGreatDoor
open Go.Sort
set_option linter.unusedVariables false
set_option linter.unusedSimpArgs false

/-! ## Equal keys, one block -/
section
variable {α : Type} [BEq α]
end

/-- The numbers of blocks of N items. -/
structure PartN (N : Nat) (p : List Int) : Prop where
  len : p.length = N
  norm : normF p = p
section
variable {es : List Ed} {N : Nat} {p q : List Int}
theorem firsts_len_le (L l : List Int) : (firsts L l).length ≤ L.length + l.length := by
  induction l generalizing L with
  | nil => exact Nat.le_refl _
  | cons x l ih =>
    unfold firsts
    refine Nat.le_trans (ih _) ?_
    rw [List.length_cons]
    split
    · omega
    · rw [List.length_append, List.length_singleton]; omega
theorem PartN.range (h : PartN N p) : ∀ x, x ∈ p → 0 ≤ x ∧ x < (N : Int) := fun x hx => by
  rw [← h.norm] at hx
  unfold normF at hx
  obtain ⟨y, hy, rfl⟩ := List.mem_map.1 hx
  have h1 := List.idxOf_lt_length_of_mem (firsts_mem.2 (.inr hy) : y ∈ firsts [] p)
  have h2 := firsts_len_le [] p
  rw [h.len] at h2
  simp only [List.length_nil] at h2
  omega
end

section
variable {es : List Ed} {N : Nat}
theorem sub_erase {L M : List Int} {x : Int} (hn : (x :: L).Nodup) (h : ∀ y, y ∈ x :: L → y ∈ M) : ∀ y, y ∈ L → y ∈ M.erase x := fun y hy => by
  have hne : y ≠ x := fun e => (List.nodup_cons.1 hn).1 (e ▸ hy)
  exact (List.mem_erase_of_ne hne).2 (h y (List.mem_cons_of_mem _ hy))
theorem sub_len : ∀ {L M : List Int}, L.Nodup → (∀ y, y ∈ L → y ∈ M) → L.length ≤ M.length
  | [], M, _, _ => Nat.zero_le _
  | x :: L, M, hn, h => by
    have h1 := sub_len (List.nodup_cons.1 hn).2 (sub_erase hn h)
    have hx := h x (List.mem_cons_self ..)
    rw [List.length_erase_of_mem hx] at h1
    have := List.length_pos_of_mem hx
    rw [List.length_cons]; omega
end
end Go.Proofs.YtcdhgabcajehnaaGreatDoor

namespace Go.Proofs.YtcdhgabcajehnaaGreatDoor
open Go.ChangeShapes Go.WideShapes Go.ChangeAt Go.RowKit
set_option linter.unusedVariables false
set_option linter.unusedSimpArgs false

theorem mem_sum : ∀ {l : List Nat} {x : Nat}, x ∈ l → x ≤ l.sum
  | a :: l, x, h => by
    rw [List.sum_cons]
    rcases List.mem_cons.1 h with e | e
    · omega
    · have := mem_sum e; omega
/-- A valid system. -/
structure SysA (w : World) (N ini : Nat) (A : Option Addr) (n : Nat) (B : Option Addr) (m : Nat) (ls : List ByteArray) (es : List Ed) : Prop where
  ss : SlS w 0 w.heap.size A n ls
  se : SlE w 0 w.heap.size B m es
  ok : ltsV ((N : Int), (ini : Int), ls, es) = true
  sz : totS ls ≤ 100000
theorem Sl.here' {α : Type} {size : Nat} {f : α → List Value} {w : World} {lo hi n : Nat} {A : Option Addr} {l : List α} (h : Sl size f w lo hi A n l) : Sl size f w 0 w.heap.size A n l :=
  ⟨h.1, fun hn => by
    obtain ⟨b, off, e, g1, g2, g3, hc⟩ := h.2 hn
    exact ⟨b, off, e, Nat.zero_le _, g3, g3, hc⟩⟩
section
variable {w w' : World} {N ini : Nat} {A : Option Addr} {n c : Nat} {B : Option Addr} {m d : Nat} {ls : List ByteArray} {es : List Ed}
theorem SysA.below {K : Nat} (h : SysA w N ini A n B m ls es) (hb : Below K w w') (hK : w.heap.size ≤ K) : SysA w' N ini A n B m ls es :=
  ⟨(h.ss.below hb (.inr hK)).here', (h.se.below hb (.inr hK)).here', h.ok, h.sz⟩
theorem SysA.labs (h : SysA w N ini A n B m ls es) : ∀ e, e ∈ es → 0 ≤ e.2.1 ∧ e.2.1 < (ls.length : Int) := fun e he => ((ltsV_edge h.ok).1 e he).2.1
theorem SysA.ends (h : SysA w N ini A n B m ls es) : ∀ e ∈ es, (0 ≤ e.1 ∧ e.1 < (N : Int)) ∧ (0 ≤ e.2.2 ∧ e.2.2 < (N : Int)) := fun e he => by
  have := (ltsV_edge h.ok).1 e he
  exact ⟨this.1, this.2.2⟩
theorem SysA.bounds (h : SysA w N ini A n B m ls es) : (1 ≤ N ∧ N ≤ 40) ∧ ini < N := by
  have := (ltsV_edge h.ok).2
  omega
theorem SysA.many (h : SysA w N ini A n B m ls es) : m ≤ 300 ∧ n ≤ 12 ∧ 1 ≤ n ∧ es.length = m ∧ ls.length = n := by
  have h1 := h.ok
  rw [ltsV_eq] at h1
  simp only [Bool.and_eq_true, decide_eq_true_eq] at h1
  obtain ⟨⟨-, -, h3, h4⟩, -⟩ := h1
  unfold namesB at h3
  rw [Bool.and_eq_true] at h3
  have h5 := inB_true.1 h3.1
  have := h.ss.len
  have := h.se.len
  omega
theorem SysA.read (h : SysA w N ini A n B m ls es) (c d : Nat) : ReadL w 0 w.heap.size ((N : Int), (ini : Int), .slice A n c, .slice B m d) ((N : Int), (ini : Int), ls, es) ∧ totL ((N : Int), (ini : Int), ls, es) ≤ 1048576 := by
  have hm := h.many
  have hz := h.sz
  have hml : 100000 ≤ maxLen := by unfold maxLen; omega
  refine ⟨⟨rfl, rfl, ⟨A, n, c, rfl, by omega, ?_, h.ss⟩, ⟨B, m, d, rfl, by omega, h.se⟩⟩, ?_⟩
  · intro s hs
    have hs : s ∈ ls := hs
    have h1 : s.size ≤ (ls.map (·.size)).sum := mem_sum (List.mem_map_of_mem hs)
    unfold totS at hz
    omega
  · unfold totL
    show totS ls + es.length ≤ 1048576
    omega
set_option maxRecDepth 100000 in
theorem SysA.valid (h : SysA w N ini A n B m ls es) (c d : Nat) (he : Env w) :
    Calls Tryz.prog 29 #[.agg #[.int .i64 (N : Int), .int .i64 (ini : Int), .slice A n c, .slice B m d]] w fun e w' => e = .returned (.bool true) ∧ Below w.heap.size w w' := by
  have q := validLts_calls ((N : Int), (ini : Int), .slice A n c, .slice B m d) ((N : Int), (ini : Int), ls, es) w 0 w.heap.size (h.read c d).1 (h.read c d).2 he
  rw [h.ok] at q
  exact q
end
/-- What is drawn is a valid system. -/
theorem DrawnG.sys {K M Q b N : Nat} {w w' : World} {e : Ending} (h : DrawnG K M Q b N w e w') (hK : K ≤ 12) : ∃ (st ini : Nat) (A : Option Addr) (n c : Nat) (B : Option Addr) (m d : Nat) (ls : List ByteArray) (es : List Ed),
    e = .returned (.agg #[.int .i64 (st : Int), .int .i64 (ini : Int), .slice A n c, .slice B m d]) ∧ SysA w' st ini A n B m ls es ∧ st ≤ 7 ∧ es.length ≤ M ∧ n ≤ K ∧ NamD ls ∧ SrcW w' b (N + Q) ∧ Only b (b + 1) w w' ∧ SlS w' w.heap.size w'.heap.size A n ls ∧ SlE w' w.heap.size w'.heap.size B m es := by
  obtain ⟨st, ini, A, n, c, B, m, d, ts, es, rfl, hA, hB, hv, h7, hM, hn, hD, hS, hO⟩ := h
  have hnam : NamD (joiF ts) := fun x hx => ((joi_mem_iff ts x).1 hx).elim .inl (hD x)
  refine ⟨st, ini, A, n, c, B, m, d, joiF ts, es, rfl, ⟨hA.here', hB.here', hv, ?_⟩, h7, hM, hn, hnam, hS, hO, hA, hB⟩
  have hl := hA.len
  have key : ∀ l : List ByteArray, NamD l → (l.map (·.size)).sum ≤ 6 * l.length := by
    intro l
    induction l with
    | nil => intro _; simp
    | cons x l ih =>
      intro hx
      have h1 := ih fun y hy => hx y (List.mem_cons_of_mem _ hy)
      have h2 : x.size ≤ 6 := by
        rcases hx x (List.mem_cons_self ..) with e | e
        · rw [e]; decide
        · unfold nm5 at e
          simp only [List.mem_cons, List.mem_nil_iff, or_false] at e
          rcases e with rfl | rfl | rfl | rfl | rfl <;> decide
      simp only [List.map_cons, List.sum_cons, List.length_cons]
      omega
  have := key _ hnam
  unfold totS
  omega
end Go.Proofs.YtcdhgabcajehnaaGreatDoor
