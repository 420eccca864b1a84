/-
  Several texts in one:
  A drawn transition system with many internal edges, by the reference: valid and small. Conditions: fewer than 10^9 choices.
  A partition refined once, by the program. Conditions: systems of at most 40 states.
  Rounds of refinement by the program: the partitions one after the other, up to the first one that stays. Conditions: at most 40 states; the next partition by whatever function value.
  Distances in a graph: by a queue and by rounds, both the least number of arcs. Conditions: none.
  Distances along the edges of a system, plain. Conditions: none.
  A queue of numbers (a slice of the call's own that is cut at its head and appended to at its end). Conditions: short queues.
  Distances, by the program: a queue. Conditions: sizes.
  Shortest paths from both ends; ways along numbered edges: plain. Conditions: none.
  A valid system as an argument, boxed or not; the program's test of validity on it. Conditions: sizes.
-/
import Derived.Test.YtcdhgabcajehnaaGreatDoorBaseA
import Derived.Test.YtcdhgabcajehnaaGreatDoorBaseB
import Derived.Test.YtcdhgabcajehnaaGreatDoorBaseC
import Derived.Test.YtcdhgabcajehnaaGreatDoorBaseD
import Derived.Test.YtcdhgabcajehnaaGreatDoorBaseE
import Derived.Deep.RegionHeld3
import Derived.ArgAppend
import Derived.StillTailTactics
import Derived.Deep.LoopGhost
import Derived.Outline
import Derived.WalkSpells
import Derived.Laws.CopyOwn
import Derived.Laws.Bits64b
import Derived.Deep.RegionLaw
set_option linter.unusedSimpArgs false
set_option linter.unusedVariables false
namespace Go.Proofs.YtcdhgabcajehnaaGreatDoor
open Go.ChangeShapes Go.WideShapes Go.ChangeAt Go.RowKit
set_option linter.unusedVariables false
set_option linter.unusedSimpArgs false

/-- A box of a system and what it leads to. -/
def LtsBox (w : World) (g : Nat) (st ini : Int) (A : Option Addr) (n c : Nat) (B : Option Addr) (m d : Nat) : Prop := w.heap[g]? = some (.cells #[.int .i64 st, .int .i64 ini, .slice A n c, .slice B m d] 27 (0, 0))
section
variable {w : World} {g : Nat} {st ini : Int} {A : Option Addr} {n c : Nat} {B : Option Addr} {m d : Nat} (h : LtsBox w g st ini A n c B m d)
include h
theorem LtsBox.c0 : w.cell? ⟨g, 0, none⟩ = some (.int .i64 st) := (cell_of_row _ _ 0 _ _ (0, 0) h).trans rfl
theorem LtsBox.c1 : w.cell? ⟨g, 1, none⟩ = some (.int .i64 ini) := (cell_of_row _ _ 1 _ _ (0, 0) h).trans rfl
theorem LtsBox.c2 : w.cell? ⟨g, 2, none⟩ = some (.slice A n c) := (cell_of_row _ _ 2 _ _ (0, 0) h).trans rfl
theorem LtsBox.c3 : w.cell? ⟨g, 3, none⟩ = some (.slice B m d) := (cell_of_row _ _ 3 _ _ (0, 0) h).trans rfl
theorem LtsBox.lt : g < w.heap.size := (Array.getElem?_eq_some_iff.1 h).1
theorem LtsBox.only {lo hi : Nat} {w' : World} (g2 : Only lo hi w w') (hd : g < lo ∨ hi ≤ g) : LtsBox w' g st ini A n c B m d := (g2.block g h.lt hd).trans h
theorem LtsBox.below {K : Nat} {w' : World} (g2 : Below K w w') (hd : g < K) : LtsBox w' g st ini A n c B m d := (g2.block g hd).trans h
end
theorem ltsV_edge {st ini : Int} {ls : List ByteArray} {es : List Ed} (h : ltsV (st, ini, ls, es) = true) : (∀ e, e ∈ es → (0 ≤ e.1 ∧ e.1 < st) ∧ (0 ≤ e.2.1 ∧ e.2.1 < (ls.length : Int)) ∧ 0 ≤ e.2.2 ∧ e.2.2 < st) ∧ (1 ≤ st ∧ st ≤ 40) ∧ (0 ≤ ini ∧ ini < st) := by
  rw [ltsV_eq] at h
  simp only [Bool.and_eq_true, decide_eq_true_eq] at h
  obtain ⟨⟨h1, h2, h3, h4⟩, h5⟩ := h
  have h1 := inB_true.1 h1
  have h2 := inB_true.1 h2
  refine ⟨fun e he => ?_, by omega, by omega⟩
  obtain ⟨k, hk⟩ := List.getElem?_of_mem he
  have hkl := (List.getElem?_eq_some_iff.1 hk).1
  obtain ⟨f, lb, t⟩ := e
  have hok := allK_get h5 hkl
  have key : ∀ {b : Bool}, ((inB f 0 (st - 1) && (inB t 0 (st - 1) && inB lb 0 ((ls.length : Int) - 1))) && b) = true → (0 ≤ f ∧ f < st) ∧ (0 ≤ lb ∧ lb < (ls.length : Int)) ∧ 0 ≤ t ∧ t < st := fun h => by
    simp only [Bool.and_eq_true] at h
    obtain ⟨⟨g1, g2, g3⟩, _⟩ := h
    have g1 := inB_true.1 g1
    have g2 := inB_true.1 g2
    have g3 := inB_true.1 g3
    omega
  by_cases k0 : k = 0
  · subst k0
    rw [okE_zero hk] at hok
    exact key (b := true) (by rw [Bool.and_true]; exact hok)
  · obtain ⟨r, hr⟩ : ∃ r, es[k - 1]? = some r := ⟨_, List.getElem?_eq_getElem (by omega)⟩
    rw [okE_at hk (by omega) hr] at hok
    exact key hok

set_option maxRecDepth 100000 in
set_option maxHeartbeats 6400000 in
theorem l15DrawOk_calls (b N : Nat) (w : World) (h : SrcW w b N) (hN : N ≤ 600000000) :
    Calls Tryz.prog 28 #[.pointer (some ⟨b, 0, none⟩)] w (DrawnG 7 64 2000 b N w) := by
  have hEe := hide elem_edge
  have hbl := h.lt
  have hon0 := (Only.refl b (b + 1) w).alloc' (.cells #[.int .i64 0, .int .i64 0, .slice none 0 0, .slice none 0 0] 27)
  have k8 := heap_alloc_new w (.cells #[.int .i64 0, .int .i64 0, .slice none 0 0, .slice none 0 0] 27)
  have hS0 := h.alloc (.cells #[.int .i64 0, .int .i64 0, .slice none 0 0, .slice none 0 0] 27)
  have hz0 : w.heap.size < (w.alloc (.cells #[.int .i64 0, .int .i64 0, .slice none 0 0, .slice none 0 0] 27)).heap.size := by simp
  obtain ⟨wA, hwA⟩ : ∃ wA, wA = w.alloc (.cells #[.int .i64 0, .int .i64 0, .slice none 0 0, .slice none 0 0] 27) := ⟨_, rfl⟩
  rw [← hwA] at hon0 k8 hS0 hz0
  have q1 := hide (l11DrawOk_calls b N wA hS0 (by omega))
  replace hon0 := hide hon0
  replace k8 := hide k8
  clear h hS0
  go_enter Tryz.func28, Tryz.ntmps28
  go_upto_region 1 with fail
  rw [← hwA]
  replace hwA := hide hwA
  go_wp2_with fail
  refine q1.out.mono ?_
  rintro e w1 ⟨st, ini, A, n, c, B, m, d, ts, es, rfl, hA1, hB1, hv, hst7, hm60, hn6, hD, hs1, hon1⟩
  obtain ⟨hed, hst40, hini⟩ := ltsV_edge hv
  have hlA := hA1.len
  have hlB := hB1.len
  rw [hlA] at hed
  have hnpos : 0 < n := by have := (List.getElem?_eq_some_iff.1 (joi_head ts)).1; omega
  replace hed := hide hed
  have hbl1 : b < w1.heap.size := hs1.lt
  have hbw1 := (Below.refl w1.heap.size w1).alloc (Nat.le_refl _) (.cells #[.int .i64 (st : Int), .int .i64 (ini : Int), .slice A n c, .slice B m d] 27)
  have hbox := heap_alloc_new w1 (.cells #[.int .i64 (st : Int), .int .i64 (ini : Int), .slice A n c, .slice B m d] 27)
  have hz2 : w1.heap.size + 1 = (w1.alloc (.cells #[.int .i64 (st : Int), .int .i64 (ini : Int), .slice A n c, .slice B m d] 27)).heap.size := by simp
  obtain ⟨w2, hw2⟩ : ∃ w2, w2 = w1.alloc (.cells #[.int .i64 (st : Int), .int .i64 (ini : Int), .slice A n c, .slice B m d] 27) := ⟨_, rfl⟩
  rw [← hw2] at hbw1 hbox hz2
  have hz12 : w1.heap.size < w2.heap.size := by omega
  have hbox2 : Hid (LtsBox w2 w1.heap.size (st : Int) (ini : Int) A n c B m d) := hbox
  have hA2 := hide (hA1.below hbw1 (.inl (Nat.le_refl _)))
  have hB2 := hide (hB1.below hbw1 (.inl (Nat.le_refl _)))
  have hs2 := hs1.below hbw1 hbl1
  have hon2 := hide (hon1.belowAt hbw1 hon1.size)
  have hE0 : Hid (Own 3 ev (w2.alloc (.cells #[] 70)) w2.heap.size 70 (some ⟨w2.heap.size, 0, none⟩) 0 0 ([] : List Ed)) := Own.made (α := Ed) (size := 3) (f := ev) w2 70 (Nat.le_refl _)
  have hs3 := hide (hs2.alloc (.cells #[] 70))
  have hon3 := hide ((Only.refl b (b + 1) w2).alloc' (.cells #[] 70))
  have hbl2 : b < w2.heap.size := by omega
  have hz1 : wA.heap.size ≤ w1.heap.size := hon1.size
  replace hz2 := hide hz2
  replace hv := hide hv
  replace hD := hide hD
  obtain ⟨hst1, -⟩ := hst40
  obtain ⟨hini0, hini1⟩ := hini
  clear q1 hA1 hB1 hs1 hs2 hon1 hbox hbw1
  go_upto_region 2 with fail
  rw [← hw2]
  replace hw2 := hide hw2
  go_wp2_with fail
  go_loopw [4, 5] (fun v4 v5 wr => ∃ (k cc : Nat) (E : Option Addr) (es1 : List Ed), k ≤ m ∧ v5 = .int .i64 (k : Nat) ∧ v4 = .slice E k cc ∧ Hid (Own 3 ev wr w2.heap.size 70 E k cc es1) ∧ Hid (EdD st n es1) ∧ Hid (SrcW wr b (N + 1000 + 2 * k)) ∧ Hid (Only b (b + 1) w2 wr)) (fun _ v _ => m - (intOf v).toNat)
  case atStart => exact ⟨0, 0, _, [], Nat.zero_le _, rfl, rfl, hE0.out, EdD.start _ _, hs3.out, hon3.out⟩
  case round =>
    clear hE0 hs3 hon3
    obtain ⟨k, cc, E, es1, hk, rfl, rfl, hO, hEd, hS, hon⟩ := hrel
    have hbox := hide (hbox2.out.only hon.out (.inr (by omega)))
    have hzr := hon.out.size
    by_cases hlt : k < m
    · have k0 : (0 : Int) ≤ (k : Int) := by omega
      have k1 : (k : Int) < (m : Int) := by omega
      obtain ⟨gb, ob, f, lb, t, rfl, -, -, hgb, hx, x0, x1, x2, -⟩ := SlE.get (hB2.out.only hon.out (.inr (by omega))) hlt
      have hin := hed.out _ (List.mem_of_getElem? hx)
      (try dsimp only at hin)
      have b3 := hbox.out.c3
      have hbx := heap_alloc_new wr (.cells #[.int .i64 f, .int .i64 lb, .int .i64 t] 70)
      have hOE := hO.out.alloc (.cells #[.int .i64 f, .int .i64 lb, .int .i64 t] 70)
      have hSE := hS.out.alloc (.cells #[.int .i64 f, .int .i64 lb, .int .i64 t] 70)
      have honE := (Only.refl b (b + 1) wr).alloc' (.cells #[.int .i64 f, .int .i64 lb, .int .i64 t] 70)
      obtain ⟨wE, hwE⟩ : ∃ wE, wE = wr.alloc (.cells #[.int .i64 f, .int .i64 lb, .int .i64 t] 70) := ⟨_, rfl⟩
      rw [← hwE] at hbx hOE hSE honE
      obtain ⟨be, hbe⟩ : ∃ be, be = wr.heap.size := ⟨_, rfl⟩
      rw [← hbe] at hbx
      obtain ⟨wO, hwO⟩ : ∃ wO : World, wO = wr := ⟨_, rfl⟩
      have hbel : be < wE.heap.size := (Array.getElem?_eq_some_iff.1 hbx).1
      have q2 := hide (one_calls b _ 3 wE hSE (by omega))
      replace hbx := hide hbx
      replace hOE := hide hOE
      replace honE := hide honE
      clear hx hSE
      go_upto_region 7 with fail
      rw [← hwE, ← hbe]
      replace hwE := hide hwE
      have hbe2 : w2.heap.size ≤ be := by rw [hbe]; exact hzr
      have hber : wr.heap.size ≤ be := Nat.le_of_eq hbe.symm
      replace hbe := hide hbe
      clear x0 x1 x2 b3 hwO
      go_upto_if 24 with (first | (go_at_call 59; (with_reducible refine q2.out.mono ?_); rintro e w5 ⟨yes, rfl, hs5⟩; replace hs5 := hide hs5))
      go_cut [] (fun wx => ∃ lb2 : Int, Hid (0 ≤ lb2 ∧ lb2 < (n : Int)) ∧ Hid (wx.heap[be]? = some (.cells #[.int .i64 f, .int .i64 lb2, .int .i64 t] 70 (0, 0))) ∧ Hid (Own 3 ev wx w2.heap.size 70 E k cc es1) ∧ Hid (SrcW wx b (N + 1000 + 2 * k + 2)) ∧ Hid (Only b (b + 1) wr wx))
      case first =>
        have hb5 : w5.heap[be]? = _ := (hs5.out.only.block be hbel (by omega)).trans hbx.out
        have hO5 := hide (hOE.out.keep (w' := w5) fun g e => hs5.out.only.block g (hOE.out.lt g e).2 (by have := (hOE.out.lt g e).1; omega))
        have hon5 := hide (honE.out.trans' hs5.out.only)
        cases yes with
        | false =>
          go_wp2_with fail
          go_meet
          exact ⟨lb, hin.2.1, hb5, hO5.out, hs5.out.src, hon5.out⟩
        | true =>
          have y1 : w5.cell? ⟨be, 1, none⟩ = some (.int .i64 lb) := (cell_of_row _ _ 1 _ _ (0, 0) hb5).trans rfl
          have z1 : w5.frozen? ⟨be, 1, none⟩ = false := frozen_of_row _ _ 1 _ _ hb5
          have hb6 : Hid ((w5.setCell ⟨be, 1, none⟩ (.int .i64 0)).heap[be]? = some (.cells #[.int .i64 f, .int .i64 0, .int .i64 t] 70 (0, 0))) := heap_setCell_same w5 be 1 _ _ (.int .i64 0) hb5
          have hO6 := hide (hO5.out.keep (w' := w5.setCell ⟨be, 1, none⟩ (.int .i64 0)) fun g e => Below.heap_setCell _ _ _ _ (by
            have := (hO.out.lt g e).2
            show g ≠ be
            omega))
          have hS6 := hide (hs5.out.src.setNew (p := ⟨be, 1, none⟩) (by show b < be; omega) (.int .i64 0))
          have hon6 := hide (hon5.out.setNew (p := ⟨be, 1, none⟩) hber (.int .i64 0))
          replace hb5 := hide hb5
          go_wp2_with fail
          go_meet
          exact ⟨0, by show _ ∧ _; omega, hb6.out, hO6.out, hS6.out, hon6.out⟩
      case rest =>
        clear hOE honE q2 hO hS hbx
        obtain ⟨lb2, hlb2, hbx, hO, hS, honC⟩ := hcut
        have hon6 := hide (hon.out.trans' honC.out)
        have y0 : wc.cell? ⟨be, 0, none⟩ = some (.int .i64 f) := (cell_of_row _ _ 0 _ _ (0, 0) hbx.out).trans rfl
        have y1 : wc.cell? ⟨be, 1, none⟩ = some (.int .i64 lb2) := (cell_of_row _ _ 1 _ _ (0, 0) hbx.out).trans rfl
        have y2 : wc.cell? ⟨be, 2, none⟩ = some (.int .i64 t) := (cell_of_row _ _ 2 _ _ (0, 0) hbx.out).trans rfl
        have hz6 := hon6.out.size
        have hza : w2.heap.size ≤ (wc.alloc (.cells #[.int .i64 f, .int .i64 lb2, .int .i64 t] 70)).heap.size := by rw [World.size_alloc]; omega
        have hOa := hide (hO.out.alloc (.cells #[.int .i64 f, .int .i64 lb2, .int .i64 t] 70))
        have hSa := hide (hS.out.alloc (.cells #[.int .i64 f, .int .i64 lb2, .int .i64 t] 70))
        have hona := hide (hon6.out.alloc' (.cells #[.int .i64 f, .int .i64 lb2, .int .i64 t] 70))
        have hrow := hide (fun q (e : (Value.slice E k cc).ownBlock = some q) => (hOa.out.lt q e).1)
        have hEd2 := hide (hEd.out.app (f := f) (l := lb2) (t := t) hin.1 hlb2.out hin.2.2)
        clear hO hS hon honC hon6 hEd hz6
        go_wp2_with (first | (at_builtin; (with_reducible refine wpList_app rfl (.tmp 26) (.tmp 28) rfl hEe.out flat_ev rfl hOa.out rfl (Sl.lit1' wc 70 (f, lb2, t) _ rfl 3 _ ?d0) ?d1 hza ?_); rotate_right; intro A6 c6 w6 hown6 hgr6 hb6 hat6))
        case d0 => rfl
        case d1 => omega
        have hS6 := hide ((hSa.out.grow hgr6 (fun q e => by have := hrow.out q e; omega)).more (show N + 1000 + 2 * k + 2 ≤ N + 1000 + 2 * (k + 1) by omega))
        have hon6 := hide (hona.out.grow hgr6 (fun q e => hrow.out q e))
        replace hown6 := hide hown6
        clear hgr6 hb6 hat6 hOa hSa hona hrow y0 y1 y2
        go_wp2_with fail
        go_roundw
        case rel => exact ⟨k + 1, c6, A6, _, by omega, by go_num, rfl, hown6.out, hEd2.out, hS6.out, hon6.out⟩
        case measure => simp [intOf]; omega
    · obtain rfl : k = m := by omega
      have k1 : ¬ (k : Int) < (k : Int) := by omega
      obtain ⟨wL, rfl⟩ : ∃ wL : World, wL = wr := ⟨_, rfl⟩
      have b3 := hbox.out.c3
      have q3 := hide (pick_calls b _ 3 wL hS.out (by omega))
      go_wp2_with fail
      refine q3.out.mono ?_
      rintro e w5 ⟨r0, rfl, r00, r01, hs5⟩
      obtain ⟨r, rfl⟩ : ∃ r : Nat, r0 = (r : Int) := ⟨r0.toNat, by omega⟩
      have hr2 : r ≤ 2 := by omega
      have hO5 := hide (hO.out.keep (w' := w5) fun g e => hs5.only.block g (hO.out.lt g e).2 (by have := (hO.out.lt g e).1; omega))
      have hon5 := hide (hon.out.trans' hs5.only)
      have hS5 := hide (hs5.src.more (show N + 1000 + 2 * k + 2 ≤ N + 1200 + 10 * (2 - r) by omega))
      clear q3 hs5 hO hon hS r00 r01 b3 hbox
      go_wp2_with fail
      go_loopw [4, 7] (fun v4 v7 wr => ∃ (r mm cc : Nat) (E : Option Addr) (es1 : List Ed), r ≤ 2 ∧ v7 = .int .i64 (r : Nat) ∧ v4 = .slice E mm cc ∧ mm ≤ 62 - r ∧ Hid (Own 3 ev wr w2.heap.size 70 E mm cc es1) ∧ Hid (EdD st n es1) ∧ Hid (SrcW wr b (N + 1200 + 10 * (2 - r))) ∧ Hid (Only b (b + 1) w2 wr)) (fun _ v _ => (intOf v).toNat)
      case atStart => exact ⟨r, k, _, _, _, hr2, rfl, rfl, by omega, hO5.out, hEd.out, hS5.out, hon5.out⟩
      case round =>
        clear hO5 hon5 hS5 hEd hr2
        obtain ⟨r, mm, cc, E, es1, hr, rfl, rfl, hmm, hO, hEd, hS, hon⟩ := hrel
        have hbox := hide (hbox2.out.only hon.out (.inr (by omega)))
        have hzr := hon.out.size
        by_cases hpos : 0 < r
        · have p1 : (0 : Int) < (r : Int) := by omega
          obtain ⟨NN, hNN⟩ : ∃ NN, N + 1200 + 10 * (2 - r) = NN := ⟨_, rfl⟩
          rw [hNN] at hS
          have hNNb : NN ≤ N + 2000 := by omega
          replace hNN := hide hNN
          have q1 := hide (pick_calls b NN (st : Int) wr.drew hS.out.drew (by omega))
          go_upto_region 13 with fail
          focus
            refine lateT_begin (S := fun w' => w'.cell? ⟨w1.heap.size, 0, none⟩ = some (.int .i64 (st : Int))) (st := 12) (by kernel_rfl) ?_
            have hS0 : (fun w' : World => w'.cell? ⟨w1.heap.size, 0, none⟩ = some (.int .i64 (st : Int))) wr.drew := hbox.out.c0
            refine lateT_take (i := 0) (oi := _) (v := ?_) [12] rfl (by kernel_rfl) (by kernel_rfl) (by kernel_rfl) (by kernel_rfl) (fun _ _ _ h => h) (Or.inl ⟨by rfl, ?hy⟩) hS0 ?_
            case hy => (intro w hSw; (try dsimp only at hSw); go_simp <;> with_reducible rfl)
            (try simp only [Act.put, List.setIfInBounds_toArray, List.set_cons_zero, List.set_cons_succ])
            refine lateT_take (i := 1) (oi := _) (v := ?_) [12] rfl (by kernel_rfl) (by kernel_rfl) (by kernel_rfl) (by kernel_rfl) (fun _ _ _ h => h) (Or.inl ⟨by rfl, ?hy⟩) hS0 ?_
            case hy => (intro w hSw; (try dsimp only at hSw); go_simp <;> with_reducible rfl)
            (try simp only [Act.put, List.setIfInBounds_toArray, List.set_cons_zero, List.set_cons_succ])
            refine lateT_take (i := 2) (oi := _) (v := ?_) [12] rfl (by kernel_rfl) (by kernel_rfl) (by kernel_rfl) (by kernel_rfl) (fun _ _ _ h => h) (Or.inl ⟨by rfl, ?hy⟩) hS0 ?_
            case hy => (intro w hSw; (try dsimp only at hSw); go_simp <;> with_reducible rfl)
            (try simp only [Act.put, List.setIfInBounds_toArray, List.set_cons_zero, List.set_cons_succ])
            refine lateT_take (i := 3) (oi := _) (v := ?_) [12] rfl (by kernel_rfl) (by kernel_rfl) (by kernel_rfl) (by kernel_rfl) (fun _ _ _ h => h) (Or.inl ⟨by rfl, ?hy⟩) hS0 ?_
            case hy => (intro w hSw; (try dsimp only at hSw); go_simp <;> with_reducible rfl)
            (try simp only [Act.put, List.setIfInBounds_toArray, List.set_cons_zero, List.set_cons_succ])
            refine lateT_take (i := 5) (oi := _) (v := ?_) [12] rfl (by kernel_rfl) (by kernel_rfl) (by kernel_rfl) (by kernel_rfl) (fun _ _ _ h => h) (Or.inl ⟨by rfl, ?hy⟩) hS0 ?_
            case hy => (intro w hSw; (try dsimp only at hSw); go_simp <;> with_reducible rfl)
            (try simp only [Act.put, List.setIfInBounds_toArray, List.set_cons_zero, List.set_cons_succ])
            refine lateT_take (i := 6) (oi := _) (v := ?_) [12] rfl (by kernel_rfl) (by kernel_rfl) (by kernel_rfl) (by kernel_rfl) (fun _ _ _ h => h) (Or.inl ⟨by rfl, ?hy⟩) hS0 ?_
            case hy => (intro w hSw; (try dsimp only at hSw); go_simp <;> with_reducible rfl)
            (try simp only [Act.put, List.setIfInBounds_toArray, List.set_cons_zero, List.set_cons_succ])
            refine lateT_take (i := 7) (oi := _) (v := ?_) [12] rfl (by kernel_rfl) (by kernel_rfl) (by kernel_rfl) (by kernel_rfl) (fun _ _ _ h => h) (Or.inl ⟨by rfl, ?hy⟩) hS0 ?_
            case hy => (intro w hSw; (try dsimp only at hSw); go_simp <;> with_reducible rfl)
            (try simp only [Act.put, List.setIfInBounds_toArray, List.set_cons_zero, List.set_cons_succ])
            refine lateT_step (i := 4) (by kernel_rfl) rfl (fun K hK => ?_)
            go_simp
            go_at_call 48
            refine q1.out.mono ?_
            rintro e w5 ⟨f, rfl, f0, f1, h5⟩
            have hb5 := hide (hbox.out.only (w := wr.drew) h5.only (.inr (by omega)))
            have k5 := hb5.out.c0
            have q2 := hide (pick_calls b _ (st : Int) w5 h5.src (by omega))
            replace h5 := hide h5
            clear q1
            go_wp2_with fail
            refine hK.out _ _ (fun _ => k5) ?_
            clear hK K
            (try simp only [Act.put, List.setIfInBounds_toArray, List.set_cons_zero, List.set_cons_succ])
            refine lateT_step (i := 8) (by kernel_rfl) rfl (fun K hK => ?_)
            go_simp
            go_at_call 48
            refine q2.out.mono ?_
            rintro e w6 ⟨tg, rfl, t0, t1, h6⟩
            have hb6 := hide (hb5.out.only h6.only (.inr (by omega)))
            have k6 := hb6.out.c0
            replace h6 := hide (h5.out.trans h6)
            have hO6 := hide (hO.out.keep (w' := w6) fun g e => h6.out.only.block (w := wr.drew) g (hO.out.lt g e).2 (by have := (hO.out.lt g e).1; omega))
            have hon6 := hide (hon.out.drew'.trans' h6.out.only)
            have hz6 := hon6.out.size
            have hza : w2.heap.size ≤ (w6.alloc (.cells #[.int .i64 f, .int .i64 0, .int .i64 tg] 70)).heap.size := by rw [World.size_alloc]; omega
            have hOa := hide (hO6.out.alloc (.cells #[.int .i64 f, .int .i64 0, .int .i64 tg] 70))
            have hSa := hide (h6.out.src.alloc (.cells #[.int .i64 f, .int .i64 0, .int .i64 tg] 70))
            have hona := hide (hon6.out.alloc' (.cells #[.int .i64 f, .int .i64 0, .int .i64 tg] 70))
            have hbxa := hide (hb6.out.below ((Below.refl w6.heap.size w6).alloc (Nat.le_refl _) (.cells #[.int .i64 f, .int .i64 0, .int .i64 tg] 70)) hb6.out.lt)
            have ka := hbxa.out.c0
            have hrow := hide (fun q (e : (Value.slice E mm cc).ownBlock = some q) => (hOa.out.lt q e).1)
            have hEd2 := hide (hEd.out.app (f := f) (l := 0) (t := tg) (by omega) (by omega) (by omega))
            have hlit := hide (Sl.lit1' (f := ev) w6 70 (f, (0 : Int), tg) #[.int .i64 f, .int .i64 0, .int .i64 tg] rfl 3 _ rfl)
            have hsz : (mm + 1) * 24 ≤ 140737488355328 := by omega
            clear q2 h5 hO hon hS hEd
            go_wp2_with fail
            refine hK.out _ _ (fun _ => k6) ?_
            clear hK K
            (try simp only [Act.put, List.setIfInBounds_toArray, List.set_cons_zero, List.set_cons_succ])
            refine lateT_step (i := 9) (by kernel_rfl) rfl (fun K hK => ?_)
            go_simp
            refine hK.out _ _ (fun _ => k6) ?_
            clear hK K
            (try simp only [Act.put, List.setIfInBounds_toArray, List.set_cons_zero, List.set_cons_succ])
            refine lateT_step (i := 10) (by kernel_rfl) rfl (fun K hK => ?_)
            go_simp
            refine hK.out _ _ (fun _ => ka) ?_
            clear hK K
            (try simp only [Act.put, List.setIfInBounds_toArray, List.set_cons_zero, List.set_cons_succ])
            refine lateT_step (i := 11) (by kernel_rfl) rfl (fun K hK => ?_)
            refine step_appL (m := 1) (d := 1) (by rfl) (.tmp 36) (.tmp 46) (by rfl) hEe.out flat_ev (by go_simp) hOa.out (by go_simp) hlit.out hsz hza ?_
            intro A6 c6 w7 hown7 hgr7 hb7 hat7
            have hS7 := hide (hSa.out.grow hgr7 (fun q e => by have := hrow.out q e; omega))
            have hon7 := hide (hona.out.grow hgr7 (fun q e => hrow.out q e))
            have hbx7 := hide (hbxa.out.below hb7 (by omega))
            have k7 := hbx7.out.c0
            replace hown7 := hide hown7
            clear hgr7 hb7 hat7
            refine hK.out _ _ (fun _ => k7) ?_
            clear hK K
            (try simp only [Act.put, List.setIfInBounds_toArray, List.set_cons_zero, List.set_cons_succ])
            refine lateT_step (i := 12) (by kernel_rfl) rfl (fun K hK => ?_)
            go_simp
            refine hK.out _ _ (fun h => absurd rfl h) ?_
            clear hK K
            (try simp only [Act.put, List.setIfInBounds_toArray, List.set_cons_zero, List.set_cons_succ])
            refine lateT_done (by kernel_rfl) ?_ _
            obtain ⟨r2, rfl⟩ : ∃ r2, r = r2 + 1 := ⟨r - 1, by omega⟩
            have hS8 := hide (hS7.out.more (show NN + 2 + 2 ≤ N + 1200 + 10 * (2 - r2) by have := hNN.out; omega))
            go_wp2_with fail
            go_roundw
            case rel => exact ⟨r2, mm + 1, c6, A6, _, by omega, by go_num, rfl, by omega, hown7.out, hEd2.out, hS8.out, hon7.out⟩
            case measure => simp [intOf]
        · obtain rfl : r = 0 := by omega
          have p1 : ¬ (0 : Int) < ((0 : Nat) : Int) := by omega
          have c0 := hbox.out.c0
          have c1 := hbox.out.c1
          have c2 := hbox.out.c2
          have hmmL := hO.out.len
          have r2 := hide (l11Make_calls (st : Int) (ini : Int) A n c (joiF ts) E mm cc es1 wr ((hA2.out.only hon.out (.inr (by omega))).more (Nat.zero_le _) (by omega)) ((hO.out.sl flat_ev).more (Nat.zero_le _) (Nat.le_refl _)) (fun e he => (hEd.out e he).2.1) (by omega) (by omega))
          go_wp2_with fail
          refine r2.out.mono ?_
          rintro e w7 ⟨A3, n3, c3, B3, m3, d3, es3, rfl, hA3, hB3, hM, hb7⟩
          have hF := hide ((hon2.out.trans' hon.out).belowAt hb7 (by omega))
          have h8 : w7.heap[w.heap.size]? = _ := (hF.out.block w.heap.size hz0 (by omega)).trans k8.out
          have a0 : w7.cell? ⟨w.heap.size, 0, none⟩ = some (.int .i64 0) := (cell_of_row _ _ 0 _ _ (0, 0) h8).trans rfl
          have a1 : w7.cell? ⟨w.heap.size, 1, none⟩ = some (.int .i64 0) := (cell_of_row _ _ 1 _ _ (0, 0) h8).trans rfl
          have a2 : w7.cell? ⟨w.heap.size, 2, none⟩ = some (.slice none 0 0) := (cell_of_row _ _ 2 _ _ (0, 0) h8).trans rfl
          have a3 : w7.cell? ⟨w.heap.size, 3, none⟩ = some (.slice none 0 0) := (cell_of_row _ _ 3 _ _ (0, 0) h8).trans rfl
          have z0 : w7.frozen? ⟨w.heap.size, 0, none⟩ = false := frozen_of_row _ _ 0 _ _ h8
          have z1 : w7.frozen? ⟨w.heap.size, 1, none⟩ = false := frozen_of_row _ _ 1 _ _ h8
          have z2 : w7.frozen? ⟨w.heap.size, 2, none⟩ = false := frozen_of_row _ _ 2 _ _ h8
          have z3 : w7.frozen? ⟨w.heap.size, 3, none⟩ = false := frozen_of_row _ _ 3 _ _ h8
          have hS7 := hide (hS.out.below hb7 (by omega))
          have hz7 := hb7.size
          have hlA3 := hA3.len
          have hlj := joi_len (joiF ts)
          replace hA3 := hide hA3
          replace hB3 := hide hB3
          replace hM := hide hM
          replace h8 := hide h8
          clear r2 hb7 c0 c1 c2 hbox
          go_wp2_with fail
          (try simp only [Exit.inBlock, Exit.then])
          refine bodyPost_ret_by (v := .agg #[.int .i64 (st : Int), .int .i64 (ini : Int), .slice A3 n3 c3, .slice B3 m3 d3]) ?_ rfl ?_
          focus
            rw [results_cell1 rfl]
            go_simp
          change DrawnG 7 64 2000 b N w _ (put4 w7 w.heap.size _ _ _ _)
          have hZs := put4_size w7 w.heap.size (.int .i64 (st : Int)) (.int .i64 (ini : Int)) (.slice A3 n3 c3) (.slice B3 m3 d3)
          have hnam : NamD (joiF ts) := fun x hx => ((joi_mem_iff ts x).1 hx).elim .inl (hD.out x)
          have hlab : ∀ x, x ∈ joiF ts → x = tauB ∨ labS x = true := fun x hx => (hnam x hx).imp id fun h => (nm5_lab x h).1
          have hmade : ltsV ((st : Int), (ini : Int), joiF (joiF ts), es3) = true := made_valid (by omega) (by omega) hlab (by omega) (by omega) (fun e he => ⟨(hEd.out e he).1, (hEd.out e he).2.2⟩) hM.out
          refine ⟨st, ini, A3, n3, c3, B3, m3, d3, joiF ts, es3, rfl, ?_, ?_, hmade, by omega, by have := hM.out.2.1; omega, by omega, hnam, ?_, ?_⟩
          · exact (Sl.keep hA3.out (by omega) fun q h1 h2 h3 => put4_other _ _ _ _ _ _ (by omega)).more (by omega) (by omega)
          · exact (Sl.keep hB3.out (by omega) fun q h1 h2 h3 => put4_other _ _ _ _ _ _ (by omega)).more (by omega) (by omega)
          · exact (hS7.out.keep (by omega) fun q hq => put4_other _ _ _ _ _ _ (by omega)).more (by omega)
          · exact put4_only (hon0.out.trans' hF.out) (Nat.le_refl _) _ _ _ _

end Go.Proofs.YtcdhgabcajehnaaGreatDoor

namespace Go.Proofs.YtcdhgabcajehnaaGreatDoor
open Go.ChangeShapes Go.WideShapes Go.ChangeAt Go.RowKit Go.Sort
set_option linter.unusedVariables false
set_option linter.unusedSimpArgs false

theorem grown_cell9 {w w' : World} {row : Option Nat} {q i : Nat} {v : Value} (h : w.grownBy w' row) (hq : q < w.heap.size) (hne : some q ≠ row) (hc : w.cell? ⟨q, i, none⟩ = some v) : w'.cell? ⟨q, i, none⟩ = some v :=
  (World.cell?_of_block (w := w) (by simpa using h.block q hq hne)).trans hc
theorem grown_frozen9 {w w' : World} {row : Option Nat} {q i : Nat} {b : Bool} (h : w.grownBy w' row) (hq : q < w.heap.size) (hne : some q ≠ row) (hc : w.frozen? ⟨q, i, none⟩ = b) : w'.frozen? ⟨q, i, none⟩ = b :=
  (World.frozen?_of_block (w := w) (by simpa using h.block q hq hne)).trans hc
theorem cdL_succ {es : List Ed} {k N : Nat} {p : List Int} {e : Ed} (hx : es[k]? = some e) (j : Nat) : cdL (es.take (k + 1)) N p j = cdL (es.take k) N p j ++ (if e.1 = (j : Int) then [cdE N p e] else []) := by
  unfold cdL
  rw [List.take_add_one, hx, List.filter_append, List.map_append]
  congr 1
  by_cases h : e.1 = (j : Int) <;> simp [h]
theorem cdL_len (es : List Ed) (N : Nat) (p : List Int) (j : Nat) : (cdL es N p j).length ≤ es.length := by
  unfold cdL; rw [List.length_map]; exact List.length_filter_le _ _
theorem keyR_len (es : List Ed) (N : Nat) (p : List Int) (j : Nat) : (keyR es N p j).length ≤ es.length + 1 := by
  unfold keyR
  rw [List.length_cons]
  have h1 := compact_len (sortI (cdL es N p j))
  rw [sortI_len] at h1
  have := cdL_len es N p j
  omega

set_option maxRecDepth 100000 in
set_option maxHeartbeats 12800000 in
theorem refine_calls (N ini : Nat) (A2 : Option Addr) (n2 k2 : Nat) (A3 : Option Addr) (n3 k3 : Nat) (A1 : Option Addr) (c1 : Nat) (es : List Ed) (p : List Int) (w : World) (lo hi lo1 hi1 : Nat)
    (t3 : SlE w lo hi A3 n3 es) (t1 : SlI w lo1 hi1 A1 N p) (hes : n3 ≤ 100000) (hN1 : 1 ≤ N) (hN : N ≤ 40) (he : EdIn N es) (hL : ∀ e, e ∈ es → e.2.1 ≤ 1000) (hp : ∀ x, x ∈ p → 0 ≤ x ∧ x < (N : Int)) :
    Calls Tryz.prog 31 #[.agg #[.int .i64 (N : Int), .int .i64 (ini : Int), .slice A2 n2 k2, .slice A3 n3 k3], .slice A1 N c1] w fun e w' => ∃ B, e = .returned (.slice (some ⟨B, 0, none⟩) N N) ∧ SlI w' w.heap.size w'.heap.size (some ⟨B, 0, none⟩) N (refF es N p) ∧ Below w.heap.size w w' := by
  have hEi := hide elem_int
  have hmk := run_make_rows N (by omega)
  have hlp := t1.len
  have hl3 := t3.len
  have hb1 := (Below.refl w.heap.size w).alloc (Nat.le_refl _) (.cells #[.int .i64 (N : Int), .int .i64 (ini : Int), .slice A2 n2 k2, .slice A3 n3 k3] 27)
  have kt := heap_alloc_new w (.cells #[.int .i64 (N : Int), .int .i64 (ini : Int), .slice A2 n2 k2, .slice A3 n3 k3] 27)
  have hz1 : (w.alloc (.cells #[.int .i64 (N : Int), .int .i64 (ini : Int), .slice A2 n2 k2, .slice A3 n3 k3] 27)).heap.size = w.heap.size + 1 := by simp
  obtain ⟨w1, hw1⟩ : ∃ w1, w1 = w.alloc (.cells #[.int .i64 (N : Int), .int .i64 (ini : Int), .slice A2 n2 k2, .slice A3 n3 k3] 27) := ⟨_, rfl⟩
  rw [← hw1] at hb1 kt hz1
  have kt1 : Hid (LtsBox w1 w.heap.size (N : Int) (ini : Int) A2 n2 k2 A3 n3 k3) := kt
  have b0 := kt1.out.c0
  have t3' := hide (t3.below hb1 (.inr (Nat.le_refl _)))
  have t1' := hide (t1.below hb1 (.inr (Nat.le_refl _)))
  obtain ⟨gp, op, rfl, -, -, hgp1, -⟩ := t1'.out.at_ hN1
  obtain ⟨bk, hbk⟩ : ∃ bk, bk = w1.heap.size := ⟨_, rfl⟩
  rw [← hbk] at hgp1
  have hbk1 : w.heap.size < bk := by omega
  replace hz1 := hide hz1
  have hM0 := BackM.made w1 N
  have hbm0 := (Below.refl w1.heap.size w1).alloc (Nat.le_refl _) (.cells (madeCells #[.slice none 0 0] N) 31)
  rw [← hbk] at hM0 hbm0
  replace hM0 := hide hM0
  replace hbm0 := hide hbm0
  replace hb1 := hide hb1
  clear kt t3 t1
  go_enter Tryz.func31, Tryz.ntmps31
  go_upto_region 1 with fail
  rw [← hw1]
  replace hw1 := hide hw1
  go_upto_region 2 with fail
  rw [← hbk]
  have hbkw : w1.heap.size ≤ bk := Nat.le_of_eq hbk.symm
  replace hbk := hide hbk
  clear b0
  go_wp2_with fail
  go_loopw [18] (fun i wr => ∃ (k : Nat) (R : List (Hd × List Int)), k ≤ N ∧ i = .int .i64 (k : Nat) ∧ Hid (BackM wr bk (bk + 1) R) ∧ Hid (RowsAre R N fun j => if j < k then [(p[j]?).getD 0] else []) ∧ Hid (Below bk w1 wr)) (fun i _ => N - (intOf i).toNat)
  case atStart => exact ⟨0, _, Nat.zero_le _, rfl, hM0.out, ⟨by simp, fun j r hr => by
    have h1 := (List.getElem?_eq_some_iff.1 hr).1
    rw [List.length_replicate] at h1
    rw [List.getElem?_replicate, if_pos h1] at hr
    cases hr
    exact (if_neg (Nat.not_lt_zero j)).symm⟩, hbm0.out⟩
  case round =>
    clear hM0 hbm0
    obtain ⟨k, R, hk, rfl, hM, hR, hb⟩ := hrel
    by_cases hlt : k < N
    · have k0 : (0 : Int) ≤ (k : Int) := by omega
      have k1 : (k : Int) < (N : Int) := by omega
      obtain ⟨gp2, op2, x, e9, -, -, -, hx, cx, -⟩ := SlI.get (t1'.out.below hb.out (.inr hbkw)) hlt
      cases e9
      obtain ⟨r, hr⟩ : ∃ r, R[k]? = some r := ⟨_, List.getElem?_eq_getElem (by rw [hR.out.1]; exact hlt)⟩
      have hMa := hM.out.alloc (.cells #[.int .i64 x] 2)
      have hfz := (hMa.cell hr).2
      have hcz := (hMa.cell hr).1
      have hbkl : bk < wr.heap.size := hM.out.lt
      have hnew : Own 1 iv (wr.alloc (.cells #[.int .i64 x] 2)) (bk + 1) 2 (some ⟨wr.heap.size, 0, none⟩) 1 1 [x] := Own.litL (heap_alloc_new wr _) rfl hbkl
      have hM2 := hide (hM.out.push (Nat.lt_succ_self _) hbkl hr hnew (grown_alloc wr _ _) (.inr rfl))
      have hR2 : Hid (RowsAre (R.set k ((some ⟨wr.heap.size, 0, none⟩, 1, 1), [x])) N fun j => if j < k + 1 then [(p[j]?).getD 0] else []) := hR.out.set hlt (by show [x] = _; rw [if_pos (by omega), hx]; rfl) fun j hj _ => by
        by_cases e : j < k
        · rw [if_pos e, if_pos (by omega)]
        · rw [if_neg e, if_neg (by omega)]
      have hb2 := hide ((hb.out.alloc (Nat.le_of_lt (Nat.lt_of_le_of_lt (Nat.le_refl bk) hbkl)) (.cells #[.int .i64 x] 2)).setCell (p := ⟨bk, k, none⟩) (Nat.le_refl _) (.slice (some ⟨wr.heap.size, 0, none⟩) 1 1))
      rw [World.setCell_alloc_past _ _ _ _ hbkl] at hM2 hb2
      replace hx := hide hx
      clear hMa hnew hR hM hr hb
      go_wp2_with fail
      go_roundw
      case rel => exact ⟨k + 1, _, by omega, by go_num, hM2.out, hR2.out, hb2.out⟩
      case measure => simp [intOf]; omega
    · obtain rfl : k = N := by omega
      have k1 : ¬ (k : Int) < (k : Int) := by omega
      obtain ⟨N, rfl⟩ : ∃ N, N = k := ⟨_, rfl⟩
      obtain ⟨wK, rfl⟩ : ∃ wK : World, wK = wr := ⟨_, rfl⟩
      have ktK := hide (kt1.out.below hb.out hbk1)
      have b0 := ktK.out.c0
      have b3 := ktK.out.c3
      obtain ⟨bs, hbs⟩ : ∃ bs, bs = wK.heap.size := ⟨_, rfl⟩
      have hbks : bk < bs := by rw [hbs]; exact hM.out.lt
      have hM0 := BackM.made wK N
      have hbm0 := (Below.refl wK.heap.size wK).alloc (Nat.le_refl _) (.cells (madeCells #[.slice none 0 0] N) 31)
      have b3' := (hbm0.cell (p := ⟨w.heap.size, 3, none⟩) (by rw [← hbs]; show w.heap.size < bs; omega)).trans b3
      rw [← hbs] at hM0 hbm0
      replace hM0 := hide hM0
      replace hbm0 := hide hbm0
      have t3K := hide (t3'.out.below hb.out (.inr hbkw))
      have t1K := hide (t1'.out.below hb.out (.inr hbkw))
      have hbsK : bs ≤ wK.heap.size := Nat.le_of_eq hbs
      have hbsK2 : wK.heap.size ≤ bs := Nat.le_of_eq hbs.symm
      have hRK : Hid (RowsAre R N fun j => [(p[j]?).getD 0]) := ⟨hR.out.1, fun j r hr => by
        have h1 := (List.getElem?_eq_some_iff.1 hr).1
        rw [hR.out.1] at h1
        exact (hR.out.2 j r hr).trans (if_pos h1)⟩
      obtain ⟨RK, rfl⟩ : ∃ RK, RK = R := ⟨_, rfl⟩
      clear hR
      go_upto_region 8 with fail
      rw [← hbs]
      replace hbs := hide hbs
      clear b0 b3
      go_wp2_with fail
      clear b3'
      go_loopw [35] (fun i wr => ∃ (k : Nat) (R : List (Hd × List Int)), k ≤ n3 ∧ i = .int .i64 (k : Nat) ∧ Hid (BackM wr bs (bs + 1) R) ∧ Hid (RowsAre R N (cdL (es.take k) N p)) ∧ Hid (Below bs wK wr)) (fun i _ => n3 - (intOf i).toNat)
      case atStart => exact ⟨0, _, Nat.zero_le _, rfl, hM0.out, ⟨by simp, fun j r hr => by
        have h1 := (List.getElem?_eq_some_iff.1 hr).1
        rw [List.length_replicate] at h1
        rw [List.getElem?_replicate, if_pos h1] at hr
        cases hr
        rfl⟩, hbm0.out⟩
      case round =>
        clear hM0 hbm0
        obtain ⟨k, R, hk, rfl, hMS, hR, hbS⟩ := hrel
        by_cases hlt : k < n3
        · have k0 : (0 : Int) ≤ (k : Int) := by omega
          have k1 : (k : Int) < (n3 : Int) := by omega
          obtain ⟨ge, oe, f, l, t, rfl, -, -, hge, hx, x0, x1, x2, -⟩ := SlE.get (t3K.out.below hbS.out (.inr hbsK2)) hlt
          have hin := he _ (List.mem_of_getElem? hx)
          have hlb := hL _ (List.mem_of_getElem? hx)
          (try dsimp only at hin hlb)
          obtain ⟨f, rfl⟩ : ∃ k : Nat, f = (k : Int) := ⟨f.toNat, by omega⟩
          obtain ⟨t, rfl⟩ : ∃ k : Nat, t = (k : Int) := ⟨t.toNat, by omega⟩
          obtain ⟨l, rfl⟩ : ∃ k : Nat, l = (k : Int) := ⟨l.toNat, by omega⟩
          have hfN : f < N := by omega
          have htN : t < N := by omega
          obtain ⟨gp2, op2, x, e9, -, -, hgp, hpx, cx, -⟩ := SlI.get (t1K.out.below hbS.out (.inr hbsK2)) htN
          cases e9
          have hxb := hp x (List.mem_of_getElem? hpx)
          obtain ⟨⟨⟨rA, rn, rc⟩, rl⟩, hr⟩ : ∃ r, R[f]? = some r := ⟨_, List.getElem?_eq_getElem (by rw [hR.out.1]; exact hfN)⟩
          have hrl : rl = cdL (es.take k) N p f := hR.out.2 f _ hr
          have hrn : rl.length = rn := (hMS.out.rows f _ hr).len
          have hrn2 : rn ≤ n3 := by
            have h1 := cdL_len (es.take k) N p f
            rw [← hrl, hrn, List.length_take] at h1
            omega
          -- the box of the edge
          have kE := heap_alloc_new wr (.cells #[.int .i64 (f : Int), .int .i64 (l : Int), .int .i64 (t : Int)] 70)
          have hbE := (Below.refl wr.heap.size wr).alloc (Nat.le_refl _) (.cells #[.int .i64 (f : Int), .int .i64 (l : Int), .int .i64 (t : Int)] 70)
          have hME := hMS.out.alloc (.cells #[.int .i64 (f : Int), .int .i64 (l : Int), .int .i64 (t : Int)] 70)
          obtain ⟨wE, hwE⟩ : ∃ wE, wE = wr.alloc (.cells #[.int .i64 (f : Int), .int .i64 (l : Int), .int .i64 (t : Int)] 70) := ⟨_, rfl⟩
          rw [← hwE] at kE hbE hME
          obtain ⟨be, hbe⟩ : ∃ be, be = wr.heap.size := ⟨_, rfl⟩
          rw [← hbe] at kE
          go_upto_region 11 with fail
          rw [← hwE, ← hbe]
          have hber : wr.heap.size ≤ be := Nat.le_of_eq hbe.symm
          have hbsr : bs < wr.heap.size := hMS.out.lt
          have ktr := (ktK.out.below hbS.out (by omega)).below hbE (by omega)
          have hcode : cdE N p ((f : Int), (l : Int), (t : Int)) = (l : Int) * (N : Int) + x := by unfold cdE; simp only [Int.toNat_natCast]; rw [hpx]; rfl
          obtain ⟨mv, hmv⟩ : ∃ mv : Nat, mv = l * N := ⟨_, rfl⟩
          have hmvb : mv ≤ 1000 * 40 := by rw [hmv]; exact Nat.mul_le_mul (by omega) hN
          have hmul : (l : Int) * (N : Int) = (mv : Int) := by rw [hmv, Int.natCast_mul]
          have hw1 : IntKind.i64.wrap ((l : Int) * (N : Int)) = (mv : Int) := by rw [hmul]; exact IntWalk.i64_in _ (by omega)
          obtain ⟨cv, hcv⟩ : ∃ cv : Int, cv = (mv : Int) + x := ⟨_, rfl⟩
          have hw2 : IntKind.i64.wrap ((mv : Int) + x) = cv := by rw [hcv]; exact IntWalk.i64_in _ (by omega)
          have hcode2 : cdE N p ((f : Int), (l : Int), (t : Int)) = cv := by rw [hcode, hmul, hcv]
          obtain ⟨wD, hwD⟩ : ∃ wD, wD = wE.drew := ⟨_, rfl⟩
          have hMD : BackM wD bs (bs + 1) R := by rw [hwD]; exact ⟨hME.outer, hME.rows, hME.apart⟩
          have hzD : wD.heap.size = wE.heap.size := by rw [hwD]; rfl
          have hbD : Below wr.heap.size wr wD := by rw [hwD]; exact hbE.drew
          have e0 : wD.cell? ⟨be, 0, none⟩ = some (.int .i64 (f : Int)) := by rw [hwD]; exact (cell_of_row wE be 0 _ _ (0, 0) kE).trans rfl
          have e1 : wD.cell? ⟨be, 1, none⟩ = some (.int .i64 (l : Int)) := by rw [hwD]; exact (cell_of_row wE be 1 _ _ (0, 0) kE).trans rfl
          have e2 : wD.cell? ⟨be, 2, none⟩ = some (.int .i64 (t : Int)) := by rw [hwD]; exact (cell_of_row wE be 2 _ _ (0, 0) kE).trans rfl
          have e3 : wD.cell? ⟨w.heap.size, 0, none⟩ = some (.int .i64 (N : Int)) := by rw [hwD]; exact ktr.c0
          have e4 := (hMD.cell hr).1
          have e5 : wD.cell? ⟨gp, op + t, none⟩ = some (.int .i64 x) := (hbD.cell (p := ⟨gp, op + t, none⟩) hgp).trans cx
          have hbel : be < wD.heap.size := by rw [hzD]; exact (Array.getElem?_eq_some_iff.1 kE).1
          have hzr : wr.heap.size ≤ wD.heap.size := hbD.size
          have hbA := (Below.refl wD.heap.size wD).alloc (Nat.le_refl _) (.cells #[.int .i64 cv] 2)
          have hMA := hMD.alloc (.cells #[.int .i64 cv] 2)
          have hOa := hide (hMA.rows f _ hr)
          have hfz := (hMA.cell hr).2
          have hlit := hide (Sl.lit1' (f := iv) wD 2 cv #[.int .i64 cv] rfl 1 _ rfl)
          have hsz : (rn + 1) * 8 ≤ 140737488355328 := by omega
          have hza : bs + 1 ≤ (wD.alloc (.cells #[.int .i64 cv] 2)).heap.size := by rw [World.size_alloc]; omega
          have hzA : (wD.alloc (.cells #[.int .i64 cv] 2)).heap.size = wD.heap.size + 1 := World.size_alloc _ _
          have a0 := (hbA.cell (p := ⟨be, 0, none⟩) hbel).trans e0
          have a1 := (hbA.cell (p := ⟨be, 1, none⟩) hbel).trans e1
          have a2 := (hbA.cell (p := ⟨be, 2, none⟩) hbel).trans e2
          have a3 := (hbA.cell (p := ⟨w.heap.size, 0, none⟩) (by show w.heap.size < _; omega)).trans e3
          have a4 := (hMA.cell hr).1
          have a5 := (hbA.cell (p := ⟨gp, op + t, none⟩) (by show gp < _; omega)).trans e5
          have hne : ∀ q, q < bs + 1 → some q ≠ (Value.slice rA rn rc).ownBlock := fun q hq e => by
            have := (hOa.out.lt q e.symm).1
            omega
          have hneb : some be ≠ (Value.slice rA rn rc).ownBlock := fun e => by
            have := (hMS.out.rows f _ hr).lt be e.symm
            omega
          have v0 := hneb
          have v1 := hne w.heap.size (by omega)
          have v2 := hne bs (by omega)
          have v3 := hne gp (by omega)
          have m0 : be < (wD.alloc (.cells #[.int .i64 cv] 2)).heap.size := by omega
          have m1 : w.heap.size < (wD.alloc (.cells #[.int .i64 cv] 2)).heap.size := by omega
          have m2 : bs < (wD.alloc (.cells #[.int .i64 cv] 2)).heap.size := by omega
          have m3 : gp < (wD.alloc (.cells #[.int .i64 cv] 2)).heap.size := by omega
          have f0 : (0 : Int) ≤ (f : Int) := by omega
          have f1 : (f : Int) < (N : Int) := by omega
          have u0 : (0 : Int) ≤ (t : Int) := by omega
          have u1 : (t : Int) < (N : Int) := by omega
          have hpushM := hide (fun (A7 : Option Addr) (c7 : Nat) (w7 : World) (hown7 : Own 1 iv w7 (bs + 1) 2 A7 (rn + 1) c7 (rl ++ [cv])) (hgr7 : (wD.alloc (.cells #[.int .i64 cv] 2)).grownBy w7 (Value.slice rA rn rc).ownBlock) (hat7) => hMA.push (Nat.lt_succ_self _) hza hr hown7 hgr7 hat7)
          have hR2 : Hid (∀ (A7 : Option Addr) (c7 : Nat), RowsAre (R.set f ((A7, rn + 1, c7), rl ++ [cv])) N (cdL (es.take (k + 1)) N p)) := fun A7 c7 => hR.out.set hfN (by show rl ++ [cv] = _; rw [cdL_succ hx, if_pos rfl, hcode2, hrl]) fun j hj _ => by
            rw [cdL_succ hx, if_neg (by show ¬ (f : Int) = (j : Int); omega), List.append_nil]
          have hbelA := hide ((hbS.out.trans (hbD.mono (by omega))).alloc (by omega) (.cells #[.int .i64 cv] 2))
          replace hx := hide hx
          replace hpx := hide hpx
          replace hr := hide hr
          replace hmv := hide hmv
          replace hcv := hide hcv
          replace hwD := hide hwD
          replace hbe := hide hbe
          replace hwE := hide hwE
          clear x0 x1 x2 cx kE hbE hME hMD hMA hbD hbA ktr hcode hcode2 hmul hR hMS hbS hrl hneb hne
          refine lateT_begin (S := fun w' => w'.cell? ⟨be, 0, none⟩ = some (.int .i64 (f : Int)) ∧ w'.cell? ⟨be, 1, none⟩ = some (.int .i64 (l : Int)) ∧ w'.cell? ⟨be, 2, none⟩ = some (.int .i64 (t : Int)) ∧ w'.cell? ⟨w.heap.size, 0, none⟩ = some (.int .i64 (N : Int)) ∧ w'.cell? ⟨bs, f, none⟩ = some (.slice rA rn rc) ∧ w'.cell? ⟨gp, op + t, none⟩ = some (.int .i64 x)) (st := 22) (by kernel_rfl) ?_
          rw [← show wD = _ from hwD.out]
          have hS0 : (fun w' : World => w'.cell? ⟨be, 0, none⟩ = some (.int .i64 (f : Int)) ∧ w'.cell? ⟨be, 1, none⟩ = some (.int .i64 (l : Int)) ∧ w'.cell? ⟨be, 2, none⟩ = some (.int .i64 (t : Int)) ∧ w'.cell? ⟨w.heap.size, 0, none⟩ = some (.int .i64 (N : Int)) ∧ w'.cell? ⟨bs, f, none⟩ = some (.slice rA rn rc) ∧ w'.cell? ⟨gp, op + t, none⟩ = some (.int .i64 x)) wD := ⟨e0, e1, e2, e3, e4, e5⟩
          refine lateT_take (i := 0) (oi := _) (v := ?_) [22] rfl (by kernel_rfl) (by kernel_rfl) (by kernel_rfl) (by kernel_rfl) (fun _ _ _ h => h) (Or.inl ⟨by rfl, ?hy⟩) hS0 ?_
          case hy => (intro w hSw; (try dsimp only at hSw); go_simp <;> with_reducible rfl)
          (try simp only [Act.put, List.setIfInBounds_toArray, List.set_cons_zero, List.set_cons_succ])
          refine lateT_take (i := 1) (oi := _) (v := ?_) [22] rfl (by kernel_rfl) (by kernel_rfl) (by kernel_rfl) (by kernel_rfl) (fun _ _ _ h => h) (Or.inl ⟨by rfl, ?hy⟩) hS0 ?_
          case hy => (intro w hSw; (try dsimp only at hSw); go_simp <;> with_reducible rfl)
          (try simp only [Act.put, List.setIfInBounds_toArray, List.set_cons_zero, List.set_cons_succ])
          refine lateT_take (i := 2) (oi := _) (v := ?_) [22] rfl (by kernel_rfl) (by kernel_rfl) (by kernel_rfl) (by kernel_rfl) (fun _ _ _ h => h) (Or.inl ⟨by rfl, ?hy⟩) hS0 ?_
          case hy => (intro w hSw; (try dsimp only at hSw); go_simp <;> with_reducible rfl)
          (try simp only [Act.put, List.setIfInBounds_toArray, List.set_cons_zero, List.set_cons_succ])
          refine lateT_take (i := 3) (oi := _) (v := ?_) [22] rfl (by kernel_rfl) (by kernel_rfl) (by kernel_rfl) (by kernel_rfl) (fun _ _ _ h => h) (Or.inl ⟨by rfl, ?hy⟩) hS0 ?_
          case hy => (intro w hSw; (try dsimp only at hSw); go_simp <;> with_reducible rfl)
          (try simp only [Act.put, List.setIfInBounds_toArray, List.set_cons_zero, List.set_cons_succ])
          refine lateT_take (i := 4) (oi := _) (v := ?_) [22] rfl (by kernel_rfl) (by kernel_rfl) (by kernel_rfl) (by kernel_rfl) (fun _ _ _ h => h) (Or.inl ⟨by rfl, ?hy⟩) hS0 ?_
          case hy => (intro w hSw; (try dsimp only at hSw); go_simp <;> with_reducible rfl)
          (try simp only [Act.put, List.setIfInBounds_toArray, List.set_cons_zero, List.set_cons_succ])
          refine lateT_take (i := 5) (oi := _) (v := ?_) [22] rfl (by kernel_rfl) (by kernel_rfl) (by kernel_rfl) (by kernel_rfl) (fun _ _ _ h => h) (Or.inl ⟨by rfl, ?hy⟩) hS0 ?_
          case hy => (intro w hSw; (try dsimp only at hSw); go_simp <;> with_reducible rfl)
          (try simp only [Act.put, List.setIfInBounds_toArray, List.set_cons_zero, List.set_cons_succ])
          refine lateT_take (i := 6) (oi := _) (v := ?_) [22] rfl (by kernel_rfl) (by kernel_rfl) (by kernel_rfl) (by kernel_rfl) (fun _ _ _ h => h) (Or.inl ⟨by rfl, ?hy⟩) hS0 ?_
          case hy => (intro w hSw; (try dsimp only at hSw); go_simp <;> with_reducible rfl)
          (try simp only [Act.put, List.setIfInBounds_toArray, List.set_cons_zero, List.set_cons_succ])
          refine lateT_take (i := 7) (oi := _) (v := ?_) [22] rfl (by kernel_rfl) (by kernel_rfl) (by kernel_rfl) (by kernel_rfl) (fun _ _ _ h => h) (Or.inl ⟨by rfl, ?hy⟩) hS0 ?_
          case hy => (intro w hSw; (try dsimp only at hSw); go_simp <;> with_reducible rfl)
          (try simp only [Act.put, List.setIfInBounds_toArray, List.set_cons_zero, List.set_cons_succ])
          refine lateT_take (i := 8) (oi := _) (v := ?_) [22] rfl (by kernel_rfl) (by kernel_rfl) (by kernel_rfl) (by kernel_rfl) (fun _ _ _ h => h) (Or.inl ⟨by rfl, ?hy⟩) hS0 ?_
          case hy => (intro w hSw; (try dsimp only at hSw); go_simp <;> with_reducible rfl)
          (try simp only [Act.put, List.setIfInBounds_toArray, List.set_cons_zero, List.set_cons_succ])
          refine lateT_take (i := 9) (oi := _) (v := ?_) [22] rfl (by kernel_rfl) (by kernel_rfl) (by kernel_rfl) (by kernel_rfl) (fun _ _ _ h => h) (Or.inl ⟨by rfl, ?hy⟩) hS0 ?_
          case hy => (intro w hSw; (try dsimp only at hSw); go_simp <;> with_reducible rfl)
          (try simp only [Act.put, List.setIfInBounds_toArray, List.set_cons_zero, List.set_cons_succ])
          refine lateT_take (i := 10) (oi := _) (v := ?_) [22] rfl (by kernel_rfl) (by kernel_rfl) (by kernel_rfl) (by kernel_rfl) (fun _ _ _ h => h) (Or.inl ⟨by rfl, ?hy⟩) hS0 ?_
          case hy => (intro w hSw; (try dsimp only at hSw); go_simp <;> with_reducible rfl)
          (try simp only [Act.put, List.setIfInBounds_toArray, List.set_cons_zero, List.set_cons_succ])
          refine lateT_take (i := 11) (oi := _) (v := ?_) [22] rfl (by kernel_rfl) (by kernel_rfl) (by kernel_rfl) (by kernel_rfl) (fun _ _ _ h => h) (Or.inl ⟨by rfl, ?hy⟩) hS0 ?_
          case hy => (intro w hSw; (try dsimp only at hSw); go_simp <;> with_reducible rfl)
          (try simp only [Act.put, List.setIfInBounds_toArray, List.set_cons_zero, List.set_cons_succ])
          refine lateT_take (i := 12) (oi := _) (v := ?_) [22] rfl (by kernel_rfl) (by kernel_rfl) (by kernel_rfl) (by kernel_rfl) (fun _ _ _ h => h) (Or.inl ⟨by rfl, ?hy⟩) hS0 ?_
          case hy => (intro w hSw; (try dsimp only at hSw); go_simp <;> with_reducible rfl)
          (try simp only [Act.put, List.setIfInBounds_toArray, List.set_cons_zero, List.set_cons_succ])
          refine lateT_take (i := 13) (oi := _) (v := ?_) [22] rfl (by kernel_rfl) (by kernel_rfl) (by kernel_rfl) (by kernel_rfl) (fun _ _ _ h => h) (Or.inl ⟨by rfl, ?hy⟩) hS0 ?_
          case hy => (intro w hSw; (try dsimp only at hSw); go_simp <;> with_reducible rfl)
          (try simp only [Act.put, List.setIfInBounds_toArray, List.set_cons_zero, List.set_cons_succ])
          refine lateT_take (i := 14) (oi := _) (v := ?_) [22] rfl (by kernel_rfl) (by kernel_rfl) (by kernel_rfl) (by kernel_rfl) (fun _ _ _ h => h) (Or.inl ⟨by rfl, ?hy⟩) hS0 ?_
          case hy => (intro w hSw; (try dsimp only at hSw); go_simp <;> with_reducible rfl)
          (try simp only [Act.put, List.setIfInBounds_toArray, List.set_cons_zero, List.set_cons_succ])
          refine lateT_take (i := 15) (oi := _) (v := ?_) [22] rfl (by kernel_rfl) (by kernel_rfl) (by kernel_rfl) (by kernel_rfl) (fun _ _ _ h => h) (Or.inl ⟨by rfl, ?hy⟩) hS0 ?_
          case hy => (intro w hSw; (try dsimp only at hSw); go_simp <;> with_reducible rfl)
          (try simp only [Act.put, List.setIfInBounds_toArray, List.set_cons_zero, List.set_cons_succ])
          refine lateT_take (i := 16) (oi := _) (v := ?_) [22] rfl (by kernel_rfl) (by kernel_rfl) (by kernel_rfl) (by kernel_rfl) (fun _ _ _ h => h) (Or.inl ⟨by rfl, ?hy⟩) hS0 ?_
          case hy => (intro w hSw; (try dsimp only at hSw); go_simp <;> with_reducible rfl)
          (try simp only [Act.put, List.setIfInBounds_toArray, List.set_cons_zero, List.set_cons_succ])
          refine lateT_take (i := 17) (oi := _) (v := ?_) [22] rfl (by kernel_rfl) (by kernel_rfl) (by kernel_rfl) (by kernel_rfl) (fun _ _ _ h => h) (Or.inl ⟨by rfl, ?hy⟩) hS0 ?_
          case hy => (intro w hSw; (try dsimp only at hSw); go_simp <;> with_reducible rfl)
          (try simp only [Act.put, List.setIfInBounds_toArray, List.set_cons_zero, List.set_cons_succ])
          refine lateT_take (i := 18) (oi := _) (v := ?_) [22] rfl (by kernel_rfl) (by kernel_rfl) (by kernel_rfl) (by kernel_rfl) (fun _ _ _ h => h) (Or.inl ⟨by rfl, ?hy⟩) hS0 ?_
          case hy => (intro w hSw; (try dsimp only at hSw); go_simp <;> with_reducible rfl)
          (try simp only [Act.put, List.setIfInBounds_toArray, List.set_cons_zero, List.set_cons_succ])
          refine lateT_step (i := 19) (by kernel_rfl) rfl (fun K hK => ?_)
          go_simp
          refine hK.out _ _ (fun _ => ⟨a0, a1, a2, a3, a4, a5⟩) ?_
          clear hK K
          (try simp only [Act.put, List.setIfInBounds_toArray, List.set_cons_zero, List.set_cons_succ])
          refine lateT_step (i := 20) (by kernel_rfl) rfl (fun K hK => ?_)
          refine step_appL (m := 1) (d := 1) (by rfl) (.tmp 46) (.tmp 58) (by rfl) hEi.out flat_iv (by go_simp) hOa.out (by go_simp) hlit.out hsz hza ?_
          intro A7 c7 w7 hown7 hgr7 hb7 hat7
          have d0 := grown_cell9 hgr7 m0 v0 a0
          have d1 := grown_cell9 hgr7 m0 v0 a1
          have d2 := grown_cell9 hgr7 m0 v0 a2
          have d3 := grown_cell9 hgr7 m1 v1 a3
          have d4 := grown_cell9 hgr7 m2 v2 a4
          have d5 := grown_cell9 hgr7 m3 v3 a5
          have df := grown_frozen9 hgr7 m2 v2 hfz
          refine hK.out _ _ (fun _ => ⟨d0, d1, d2, d3, d4, d5⟩) ?_
          clear hK K
          (try simp only [Act.put, List.setIfInBounds_toArray, List.set_cons_zero, List.set_cons_succ])
          refine lateT_step (i := 21) (by kernel_rfl) rfl (fun K hK => ?_)
          go_simp
          refine hK.out _ _ (fun _ => ⟨d0, d1, d2, d3, d4, d5⟩) ?_
          clear hK K
          (try simp only [Act.put, List.setIfInBounds_toArray, List.set_cons_zero, List.set_cons_succ])
          refine lateT_step (i := 22) (by kernel_rfl) rfl (fun K hK => ?_)
          go_simp
          refine hK.out _ _ (fun h => absurd rfl h) ?_
          clear hK K
          (try simp only [Act.put, List.setIfInBounds_toArray, List.set_cons_zero, List.set_cons_succ])
          refine lateT_done (by kernel_rfl) ?_ _
          have hM7 := hide (hpushM.out A7 c7 w7 hown7 hgr7 hat7)
          have hb7' := hide ((hbelA.out.grown hgr7 (by omega) (fun q e => by have := (hOa.out.lt q e).1; omega)).setCell (p := ⟨bs, f, none⟩) (Nat.le_refl _) (.slice A7 (rn + 1) c7))
          have hR7 := hide (hR2.out A7 c7)
          clear hpushM hR2 hbelA hgr7 hb7 hat7 hown7
          go_wp2_with fail
          go_roundw
          case rel => exact ⟨k + 1, _, by omega, by go_num, hM7.out, hR7.out, hb7'.out⟩
          case measure => simp [intOf]; omega
        · obtain rfl : k = n3 := by omega
          have k1 : ¬ (k : Int) < (k : Int) := by omega
          obtain ⟨n3, rfl⟩ : ∃ n3, n3 = k := ⟨_, rfl⟩
          obtain ⟨wS, rfl⟩ : ∃ wS : World, wS = wr := ⟨_, rfl⟩
          obtain ⟨RS, rfl⟩ : ∃ RS, RS = R := ⟨_, rfl⟩
          have hRS : Hid (RowsAre RS N (cdL es N p)) := by
            have := hR.out
            rw [List.take_of_length_le (by rw [hl3]; exact Nat.le_refl _)] at this
            exact this
          have hMK := hide (hM.out.below (hbS.out.mono hbsK2))
          have hKb : Hid (∀ (i : Nat) (r : Hd × List Int), RK[i]? = some r → ∀ g, (Value.slice r.1.1 r.1.2.1 r.1.2.2).ownBlock = some g → g < bs ∨ wS.heap.size ≤ g) := fun i r hr g hg => .inl (by have := ((hM.out.rows i r hr).lt g hg).2; omega)
          have hbw := hide (hb.out.trans (hbS.out.mono (by omega)))
          have hbsS : bs < wS.heap.size := hMS.out.lt
          have hMS0 := hide hMS.out
          clear hR hM hb k1
          go_wp2_with fail
          go_loopw [64] (fun i wr => ∃ (k : Nat) (R : List (Hd × List Int)), k ≤ N ∧ i = .int .i64 (k : Nat) ∧ Hid (BackM wr bk (bk + 1) R) ∧ Hid (RowsAre R N fun j => if j < k then keyR es N p j else [(p[j]?).getD 0]) ∧ Hid (∀ (i : Nat) (r : Hd × List Int), R[i]? = some r → ∀ g, (Value.slice r.1.1 r.1.2.1 r.1.2.2).ownBlock = some g → g < bs ∨ wS.heap.size ≤ g) ∧ Hid (Below bk w1 wr) ∧ wS.heap.size ≤ wr.heap.size ∧ Hid (∀ b, bs ≤ b → b < wS.heap.size → (∀ (i : Nat) (r : Hd × List Int), i < k → RS[i]? = some r → (Value.slice r.1.1 r.1.2.1 r.1.2.2).ownBlock ≠ some b) → wr.heap[b]? = wS.heap[b]?)) (fun i _ => N - (intOf i).toNat)
          case atStart => exact ⟨0, RK, Nat.zero_le _, rfl, hMK.out, ⟨hRK.out.1, fun j r hr => (hRK.out.2 j r hr).trans (if_neg (Nat.not_lt_zero j)).symm⟩, hKb.out, hbw.out, Nat.le_refl _, fun b _ _ _ => rfl⟩
          case round =>
            clear hMK hKb hbw
            obtain ⟨k, R, hk, rfl, hM, hR, hKb, hb, hzS, hkeep⟩ := hrel
            by_cases hlt : k < N
            · have k0 : (0 : Int) ≤ (k : Int) := by omega
              have k1 : (k : Int) < (N : Int) := by omega
              obtain ⟨⟨⟨sA, sn, sc⟩, sl⟩, hsr⟩ : ∃ r, RS[k]? = some r := ⟨_, List.getElem?_eq_getElem (by rw [hRS.out.1]; exact hlt)⟩
              obtain ⟨⟨⟨kA, kn, kc⟩, kl⟩, hkr⟩ : ∃ r, R[k]? = some r := ⟨_, List.getElem?_eq_getElem (by rw [hR.out.1]; exact hlt)⟩
              have hsl : sl = cdL es N p k := hRS.out.2 k _ hsr
              have hkl : kl = [(p[k]?).getD 0] := (hR.out.2 k _ hkr).trans (if_neg (Nat.lt_irrefl k))
              have hOS := hMS0.out.rows k _ hsr
              have hsn : sl.length = sn := hOS.len
              have hsn2 : sn ≤ n3 := by rw [← hsn, hsl, ← hl3]; exact cdL_len _ _ _ _
              obtain rfl : kn = 1 := by have := (hM.out.rows k _ hkr).len; rw [hkl] at this; exact this.symm
              have hbsame : wr.heap[bs]? = wS.heap[bs]? := hkeep.out bs (Nat.le_refl _) hbsS fun i r _ hr e => by
                have := ((hMS0.out.rows i r hr).lt bs e).1
                omega
              have hcs : wr.cell? ⟨bs, k, none⟩ = some (.slice sA sn sc) := (World.cell?_of_block (w := wS) (by simpa using hbsame)).trans (hMS0.out.cell hsr).1
              have hOr : Own 1 iv wr (bs + 1) 2 sA sn sc sl := hOS.keep fun g hg => hkeep.out g (by have := (hOS.lt g hg).1; omega) (hOS.lt g hg).2 fun i r hi hr e => by
                rcases hMS0.out.apart i k r _ (by omega) hr hsr with h1 | h1
                · rw [e] at h1; cases h1
                · exact h1 (e.trans hg.symm)
              have hown : ∀ g, (Value.slice sA sn sc).ownBlock = some g → bs + 1 ≤ g ∧ g < wS.heap.size := fun g hg => hOS.lt g hg
              have qS := hide (sortI_calls hOr (by omega))
              have hkeepK : Hid (∀ (W W' : World), BackM W bk (bk + 1) R → wr.heap.size ≤ W.heap.size → W.grownBy W' (Value.slice sA sn sc).ownBlock → BackM W' bk (bk + 1) R) := fun W W' hMW hzW hg => hMW.keepR (hg.block bk hMW.lt fun e => by have := (hown bk e.symm).1; omega) fun i r hr g hgg => hg.block g ((hMW.rows i r hr).lt g hgg).2 fun e => by
                have h1 := hown g e.symm
                rcases hKb.out i r hr g hgg with h2 | h2 <;> omega
              clear hOS
              replace hsl := hide hsl
              replace hkl := hide hkl
              go_upto_region 16 with fail
              clear hcs
              go_wp2_with fail
              refine qS.out.mono ?_
              rintro e w5 ⟨rfl, hO5, hg5⟩
              have hM5 := hkeepK.out wr w5 hM.out (Nat.le_refl _) hg5
              obtain ⟨wD, hwD⟩ : ∃ wD, wD = w5.drew := ⟨_, rfl⟩
              have hMD : BackM wD bk (bk + 1) R := by rw [hwD]; exact ⟨hM5.outer, hM5.rows, hM5.apart⟩
              have hOD : Own 1 iv wD (bs + 1) 2 sA sn sc (sortI sl) := by rw [hwD]; exact hO5
              have hzD : wD.heap.size = w5.heap.size := by rw [hwD]; rfl
              have hz5 := hg5.size
              have hgD : wr.grownBy wD (Value.slice sA sn sc).ownBlock := by rw [hwD]; exact ⟨hg5.os, hg5.tape, hg5.output, hg5.size, hg5.block⟩
              have c5 := (hMD.cell hkr).1
              have qC := hide (compactI_calls (w := wD) hOD (by omega))
              have hMDk := hide (fun (w6 : World) (hg : wD.grownBy w6 (Value.slice sA sn sc).ownBlock) => hkeepK.out wD w6 hMD (by omega) hg)
              have hcl := compact_len (sortI sl)
              rw [sortI_len, hsn] at hcl
              have hsz : (1 + (Lib.compact (sortI sl)).length) * 8 ≤ 140737488355328 := by omega
              have hKbk := hide (fun g (hg : (Value.slice kA 1 kc).ownBlock = some g) => hKb.out k _ hkr g hg)
              go_upto_region 17 with fail
              replace hwD := hide hwD
              replace hgD := hide hgD
              clear hO5 hg5 hM5 qS hOr hOD hMD
              refine lateT_begin (S := fun w' => w'.cell? ⟨bk, k, none⟩ = some (.slice kA 1 kc)) (st := 10) (by kernel_rfl) ?_
              rw [← show wD = _ from hwD.out]
              have hS0 : (fun w' : World => w'.cell? ⟨bk, k, none⟩ = some (.slice kA 1 kc)) wD := c5
              refine lateT_take (i := 0) (oi := _) (v := ?_) [10] rfl (by kernel_rfl) (by kernel_rfl) (by kernel_rfl) (by kernel_rfl) (fun _ _ _ h => h) (Or.inl ⟨by rfl, ?hy⟩) hS0 ?_
              case hy => (intro w hSw; (try dsimp only at hSw); go_simp <;> with_reducible rfl)
              (try simp only [Act.put, List.setIfInBounds_toArray, List.set_cons_zero, List.set_cons_succ])
              refine lateT_take (i := 1) (oi := _) (v := ?_) [10] rfl (by kernel_rfl) (by kernel_rfl) (by kernel_rfl) (by kernel_rfl) (fun _ _ _ h => h) (Or.inl ⟨by rfl, ?hy⟩) hS0 ?_
              case hy => (intro w hSw; (try dsimp only at hSw); go_simp <;> with_reducible rfl)
              (try simp only [Act.put, List.setIfInBounds_toArray, List.set_cons_zero, List.set_cons_succ])
              refine lateT_take (i := 2) (oi := _) (v := ?_) [10] rfl (by kernel_rfl) (by kernel_rfl) (by kernel_rfl) (by kernel_rfl) (fun _ _ _ h => h) (Or.inl ⟨by rfl, ?hy⟩) hS0 ?_
              case hy => (intro w hSw; (try dsimp only at hSw); go_simp <;> with_reducible rfl)
              (try simp only [Act.put, List.setIfInBounds_toArray, List.set_cons_zero, List.set_cons_succ])
              refine lateT_take (i := 3) (oi := _) (v := ?_) [10] rfl (by kernel_rfl) (by kernel_rfl) (by kernel_rfl) (by kernel_rfl) (fun _ _ _ h => h) (Or.inl ⟨by rfl, ?hy⟩) hS0 ?_
              case hy => (intro w hSw; (try dsimp only at hSw); go_simp <;> with_reducible rfl)
              (try simp only [Act.put, List.setIfInBounds_toArray, List.set_cons_zero, List.set_cons_succ])
              refine lateT_take (i := 4) (oi := _) (v := ?_) [10] rfl (by kernel_rfl) (by kernel_rfl) (by kernel_rfl) (by kernel_rfl) (fun _ _ _ h => h) (Or.inl ⟨by rfl, ?hy⟩) hS0 ?_
              case hy => (intro w hSw; (try dsimp only at hSw); go_simp <;> with_reducible rfl)
              (try simp only [Act.put, List.setIfInBounds_toArray, List.set_cons_zero, List.set_cons_succ])
              refine lateT_take (i := 5) (oi := _) (v := ?_) [10] rfl (by kernel_rfl) (by kernel_rfl) (by kernel_rfl) (by kernel_rfl) (fun _ _ _ h => h) (Or.inl ⟨by rfl, ?hy⟩) hS0 ?_
              case hy => (intro w hSw; (try dsimp only at hSw); go_simp <;> with_reducible rfl)
              (try simp only [Act.put, List.setIfInBounds_toArray, List.set_cons_zero, List.set_cons_succ])
              refine lateT_take (i := 6) (oi := _) (v := ?_) [10] rfl (by kernel_rfl) (by kernel_rfl) (by kernel_rfl) (by kernel_rfl) (fun _ _ _ h => h) (Or.inl ⟨by rfl, ?hy⟩) hS0 ?_
              case hy => (intro w hSw; (try dsimp only at hSw); go_simp <;> with_reducible rfl)
              (try simp only [Act.put, List.setIfInBounds_toArray, List.set_cons_zero, List.set_cons_succ])
              refine lateT_step (i := 7) (by kernel_rfl) rfl (fun K hK => ?_)
              go_simp
              go_at_call 67
              refine qC.out.mono ?_
              rintro e w6 ⟨rfl, hO6, hg6⟩
              have hM6 := hMDk.out w6 hg6
              have c6 := (hM6.cell hkr).1
              have hfz6 := (hM6.cell hkr).2
              have hOk6 := hide (hM6.rows k _ hkr)
              have hlit := hide (hO6.sl flat_iv)
              have hz6 := hg6.size
              have hza : bk + 1 ≤ w6.heap.size := hM6.lt
              go_wp2_with fail
              refine hK.out _ _ (fun _ => c6) ?_
              clear hK K
              (try simp only [Act.put, List.setIfInBounds_toArray, List.set_cons_zero, List.set_cons_succ])
              refine lateT_step (i := 8) (by kernel_rfl) rfl (fun K hK => ?_)
              refine step_appL (m := (Lib.compact (sortI sl)).length) (d := sc) (by rfl) (.tmp 76) (.tmp 78) (by rfl) hEi.out flat_iv (by go_simp) hOk6.out (by go_simp) hlit.out hsz hza ?_
              intro A7 c7v w7 hown7 hgr7 hb7 hat7
              have hnb : some bk ≠ (Value.slice kA 1 kc).ownBlock := fun e => by
                have := (hOk6.out.lt bk e.symm).1
                omega
              have c7 := grown_cell9 hgr7 (by omega) hnb c6
              have df := grown_frozen9 hgr7 (by omega) hnb hfz6
              refine hK.out _ _ (fun _ => c7) ?_
              clear hK K
              (try simp only [Act.put, List.setIfInBounds_toArray, List.set_cons_zero, List.set_cons_succ])
              refine lateT_step (i := 9) (by kernel_rfl) rfl (fun K hK => ?_)
              go_simp
              refine hK.out _ _ (fun _ => c7) ?_
              clear hK K
              (try simp only [Act.put, List.setIfInBounds_toArray, List.set_cons_zero, List.set_cons_succ])
              refine lateT_step (i := 10) (by kernel_rfl) rfl (fun K hK => ?_)
              go_simp
              refine hK.out _ _ (fun h => absurd rfl h) ?_
              clear hK K
              (try simp only [Act.put, List.setIfInBounds_toArray, List.set_cons_zero, List.set_cons_succ])
              refine lateT_done (by kernel_rfl) ?_ _
              have hM8 := hide (hM6.push (Nat.lt_succ_self _) hza hkr hown7 hgr7 hat7)
              have hval : kl ++ Lib.compact (sortI sl) = keyR es N p k := by rw [hkl.out, hsl.out]; rfl
              have hR8 : Hid (RowsAre (R.set k ((A7, 1 + (Lib.compact (sortI sl)).length, c7v), kl ++ Lib.compact (sortI sl))) N fun j => if j < k + 1 then keyR es N p j else [(p[j]?).getD 0]) := hR.out.set hlt (by show kl ++ _ = _; rw [if_pos (by omega)]; exact hval) fun j hj _ => by
                by_cases e : j < k
                · rw [if_pos e, if_pos (by omega)]
                · rw [if_neg e, if_neg (by omega)]
              have hKb8 : Hid (∀ (i : Nat) (r : Hd × List Int), (R.set k ((A7, 1 + (Lib.compact (sortI sl)).length, c7v), kl ++ Lib.compact (sortI sl)))[i]? = some r → ∀ g, (Value.slice r.1.1 r.1.2.1 r.1.2.2).ownBlock = some g → g < bs ∨ wS.heap.size ≤ g) := fun i r hr g hg => by
                by_cases e : k = i
                · subst e
                  rw [List.getElem?_set_self (by rw [hR.out.1]; exact hlt)] at hr
                  cases hr
                  (try dsimp only at hg)
                  rcases hat7 with h1 | h1
                  · exact hKbk.out g (h1.symm.trans hg)
                  · rw [h1] at hg
                    injection hg with hg
                    right; omega
                · rw [List.getElem?_set_ne e] at hr
                  exact hKb.out i r hr g hg
              have hb8 := hide (((((hb.out.grown hgD.out (by omega) (fun q e => by have := (hown q e).1; omega)).grown hg6 (by omega) (fun q e => by have := (hown q e).1; omega)).grown hgr7 (by omega) (fun q e => by have := (hOk6.out.lt q e).1; omega)).setCell (p := ⟨bk, k, none⟩) (Nat.le_refl _) (.slice A7 (1 + (Lib.compact (sortI sl)).length) c7v)))
              have hz7 := hgr7.size
              have hzS8 : wS.heap.size ≤ (w7.setCell ⟨bk, k, none⟩ (.slice A7 (1 + (Lib.compact (sortI sl)).length) c7v)).heap.size := by rw [World.size_setCell]; omega
              have hkeep8 : Hid (∀ b, bs ≤ b → b < wS.heap.size → (∀ (i : Nat) (r : Hd × List Int), i < k + 1 → RS[i]? = some r → (Value.slice r.1.1 r.1.2.1 r.1.2.2).ownBlock ≠ some b) → (w7.setCell ⟨bk, k, none⟩ (.slice A7 (1 + (Lib.compact (sortI sl)).length) c7v)).heap[b]? = wS.heap[b]?) := fun b h1 h2 h3 => by
                have hnk := h3 k _ (by omega) hsr
                rw [Below.heap_setCell _ _ _ _ (show b ≠ bk by omega), hgr7.block b (by omega) (fun e => by
                  rcases hKbk.out b e.symm with h4 | h4 <;> omega), hg6.block b (by omega) (fun e => hnk e.symm), hgD.out.block b (by omega) (fun e => hnk e.symm)]
                exact hkeep.out b h1 h2 fun i r hi hr => h3 i r (by omega) hr
              replace hM6 := hide hM6
              replace hO6 := hide hO6
              replace hg6 := hide hg6
              clear hown7 hgr7 hb7 hat7 hR hM hb hkeep hKb hKbk hkeepK
              replace hval := hide hval
              replace hkr := hide hkr
              replace hsr := hide hsr
              go_wp2_with fail
              go_roundw
              case rel => exact ⟨k + 1, _, by omega, by go_num, hM8.out, hR8.out, hKb8.out, hb8.out, hzS8, hkeep8.out⟩
              case measure => simp [intOf]; omega
            · obtain rfl : k = N := by omega
              have k1 : ¬ (k : Int) < (k : Int) := by omega
              have hmap : R.map (·.2) = keysR es k p := by
                rw [hR.out.map]
                unfold keysR
                exact List.map_congr_left fun j hj => by rw [if_pos (List.mem_range.1 hj)]
              have hrows := hM.out.rowsI fun i r hr => by
                have h1 : r.2 = keyR es k p i := (hR.out.2 i r hr).trans (if_pos (by have := (List.getElem?_eq_some_iff.1 hr).1; rw [hR.out.1] at this; exact this))
                rw [h1]
                have := keyR_len es k p i
                omega
              rw [hR.out.1] at hrows
              have qN := normalKeys_calls (some ⟨bk, 0, none⟩) k k R wr _ _ hrows (by omega) (Nat.le_refl _)
              rw [hmap] at qN
              replace qN := hide qN
              have hbF := hide (hb1.out.trans (hb.out.mono (by omega)))
              have hzF := hbF.out.size
              clear hrows hmap hM hR hKb hb hkeep hMS hMS0 hRS
              go_wp2_with fail
              refine qN.out.mono ?_
              rintro e w9 ⟨B, rfl, hB, hb9⟩
              have hB9 := hide (hB.more hzF (Nat.le_refl _))
              replace hb9 := hide (hbF.out.trans (hb9.mono hzF))
              clear qN
              go_wp2_with fail
              go_ret
              exact ⟨B, rfl, hB9.out, hb9.out⟩

end Go.Proofs.YtcdhgabcajehnaaGreatDoor

namespace Go.Proofs.YtcdhgabcajehnaaGreatDoor
open Go.ChangeShapes Go.WideShapes Go.ChangeAt Go.RowKit
set_option linter.unusedVariables false
set_option linter.unusedSimpArgs false

theorem made_zeroP (w : World) (n : Nat) : SlI (w.alloc (.cells (madeCells #[.int .i64 0] n) 2)) w.heap.size (w.heap.size + 1) (some ⟨w.heap.size, 0, none⟩) n (zeroP n) := by
  refine ⟨by simp [zeroP], fun hn => ⟨w.heap.size, 0, rfl, Nat.le_refl _, Nat.lt_succ_self _, by simp, fun k x hx j u hu => ?_⟩⟩
  have hk : k < n := by have := (List.getElem?_eq_some_iff.1 hx).1; simpa [zeroP] using this
  have hx0 : x = 0 := by
    unfold zeroP at hx
    rw [List.getElem?_replicate, if_pos hk] at hx
    exact (Option.some.inj hx).symm
  subst hx0
  have hj : j = 0 := by
    have := (List.getElem?_eq_some_iff.1 hu).1
    simp [iv] at this
    exact this
  subst hj
  simp [iv] at hu
  subst hu
  have hg := heap_alloc_new w (.cells (madeCells #[.int .i64 0] n) 2)
  refine ⟨(cell_of_row _ _ _ _ _ (0, 0) hg).trans ?_, frozen_of_row _ _ _ _ _ hg⟩
  simp [madeCells, Value.cells, hk, Nat.mod_one]

set_option maxRecDepth 100000 in
theorem single_calls (N : Nat) (hN : N ≤ 1048576) (w : World) :
    Calls Tryz.prog 65 #[.int .i64 (N : Int)] w fun e w' => e = .returned (.slice (some ⟨w.heap.size, 0, none⟩) N N) ∧ SlI w' w.heap.size w'.heap.size (some ⟨w.heap.size, 0, none⟩) N (zeroP N) ∧ Below w.heap.size w w' := by
  have hmk := run_make_int N hN
  go_enter Tryz.func65, Tryz.ntmps65
  go_wp2_with fail
  go_ret
  exact ⟨rfl, (made_zeroP w N).more (Nat.le_refl _) (by rw [World.size_alloc]; exact Nat.le_refl _), (Below.refl _ _).alloc (Nat.le_refl _) _⟩

/-- What a function answers that gives the next partition. -/
def NextOk (es : List Ed) (N : Nat) (F : FuncId) (pre : Array Value) (w : World) : Prop :=
  ∀ (k : Nat) (A : Option Addr) (c : Nat) (W : World) (lo hi : Nat), Below w.heap.size w W → SlI W lo hi A N (rndP es N k) →
    Calls Tryz.prog F (pre.push (.slice A N c)) W fun e W' => ∃ B c', e = .returned (.slice B N c') ∧ SlI W' W.heap.size W'.heap.size B N (rndP es N (k + 1)) ∧ Below W.heap.size W W'
/-- The partitions so far. -/
structure RouW (w wr : World) (es : List Ed) (N : Nat) (j : Nat) (A : Option Addr) (c : Nat) (R : List (HI × List Int)) : Prop where
  grow : GrowI wr w.heap.size N A (j + 1) c R
  vals : R.map (·.2) = (List.range (j + 1)).map (rndP es N)
  new : ∀ m, m < j → rndP es N (m + 1) ≠ rndP es N m
  below : Below w.heap.size w wr
def lenV9 (v : Value) : Nat := match v with | .slice _ n _ => n | _ => 0
set_option maxRecDepth 100000 in
set_option maxHeartbeats 6400000 in
theorem rounds_calls (es : List Ed) (N : Nat) (hN1 : 1 ≤ N) (hN : N ≤ 40) (he : EdIn N es) (F : FuncId) (pre : Array Value) (w : World) (hnext : NextOk es N F pre w)
    (hF : ∀ (v : Value) (W : World), Sem.run Tryz.prog (callFunc F (pre.push v)) W = .ok (.enter F (pre.push v)) W) :
    Calls Tryz.prog 30 #[.int .i64 (N : Int), .func (.func F) pre #[]] w fun e w' => ∃ r A c R, e = .returned (.slice A (r + 1) c) ∧ LastR es N r ∧ RouW w w' es N r A c R := by
  have hER := hide elem_rowI
  have hS := hide (single_calls N (by omega) w)
  replace hnext := hide hnext
  replace he := hide he
  go_enter Tryz.func30, Tryz.ntmps30
  go_wp2_with fail
  refine hS.out.mono ?_
  rintro e w3 ⟨rfl, hs3, hb3⟩
  have hz3 := hb3.size
  have hbl : Below w3.heap.size w3 (w3.alloc (.cells #[.slice (some ⟨w.heap.size, 0, none⟩) N N] 31)) := (Below.refl _ _).alloc (Nat.le_refl _) _
  have hstart : Hid (RouW w (w3.alloc (.cells #[.slice (some ⟨w.heap.size, 0, none⟩) N N] 31)) es N 0 (some ⟨w3.heap.size, 0, none⟩) 1 [((some ⟨w.heap.size, 0, none⟩, N), zeroP N)]) :=
    ⟨GrowI.one hs3 hz3, rfl, fun i hi => absurd hi (by omega), hb3.trans (hbl.mono hz3)⟩
  clear hS hs3 hbl
  go_wp2_with fail
  go_loopw [5] (fun o wr => ∃ (j : Nat) (A : Option Addr) (c : Nat) (R : List (HI × List Int)), j + 1 ≤ N ∧ o = .slice A (j + 1) c ∧ Hid (RouW w wr es N j A c R)) (fun o _ => N + 2 - lenV9 o)
  case atStart => exact ⟨0, _, _, _, hN1, rfl, hstart⟩
  case round =>
    clear hstart
    obtain ⟨j, A, c, R, hj, rfl, hR⟩ := hrel
    obtain ⟨bo, oo, Ah, ch, s, rfl, go1, go2, hrj, co, hsj, hoff⟩ := hR.out.grow.get (show j < j + 1 by omega)
    have hs : s = rndP es N j := by
      have h1 : (R.map (·.2))[j]? = some s := by rw [List.getElem?_map, hrj]; rfl
      rw [hR.out.vals, List.getElem?_map, List.getElem?_range (by omega)] at h1
      exact (Option.some.inj h1).symm
    subst hs
    have hwr := hR.out.below
    have qY := hide (hnext.out j Ah ch wr _ _ hwr hsj)
    have hzr := hwr.size
    have hi1 : IntKind.i64.wrap (((j + 1 : Nat) : Int) - 1) = (j : Int) := by rw [IntWalk.i64_in _ (by omega)]; omega
    have hi2 : ((j + 1 : Nat) : Int) - 1 = (j : Int) := by omega
    have hj0 : (0 : Int) ≤ (j : Int) := by omega
    have hj1 : (j : Int) < ((j + 1 : Nat) : Int) := by omega
    replace hsj := hide hsj
    clear hoff hwr
    go_upto_region 3 with fail
    go_wp2_with fail
    refine qY.out.mono ?_
    rintro e w4 ⟨A4, c4, rfl, hs4, hb4⟩
    have hG4 := hide (hR.out.grow.below hb4)
    have hz4 := hb4.size
    have hsj4 := hide (hsj.out.below hb4 (.inr (Nat.le_refl _)))
    have qE := equalI_calls Ah A4 N N ch c4 _ _ w4 _ _ _ _ hsj4.out hs4 (by omega) (by omega)
    replace hs4 := hide hs4
    replace hb4 := hide hb4
    clear co qY hi1 hi2 hj0 hj1
    by_cases heq : rndP es N j = rndP es N (j + 1)
    · rw [decide_eq_true heq] at qE
      replace qE := hide qE
      replace heq := hide heq
      go_wp2_with fail
      refine qE.out.mono ?_
      rintro e w5 ⟨rfl, hb5⟩
      go_wp2_with fail
      go_ret
      exact ⟨j, _, _, R, rfl, ⟨heq.out.symm, hR.out.new⟩, ⟨hG4.out.below hb5, hR.out.vals, hR.out.new, hR.out.below.trans ((hb4.out.trans (hb5.mono hz4)).mono hzr)⟩⟩
    · rw [decide_eq_false heq] at qE
      replace qE := hide qE
      have hnew : Hid (∀ m, m < j + 1 → rndP es N (m + 1) ≠ rndP es N m) := fun m hm => by
        by_cases e : m < j
        · exact hR.out.new m e
        · obtain rfl : m = j := by omega
          exact fun h => heq h.symm
      have hjN : j + 1 + 1 ≤ N := rnd_bound he.out hN1 hnew.out
      clear heq
      go_wp2_with fail
      refine qE.out.mono ?_
      rintro e w5 ⟨rfl, hb5⟩
      have hG5 := hide (hG4.out.below hb5)
      have hz5 := hb5.size
      have hza : w.heap.size ≤ (w5.alloc (.cells #[.slice A4 N c4] 31)).heap.size := by rw [World.size_alloc]; omega
      have hOa := hide (hG5.out.own.alloc (.cells #[.slice A4 N c4] 31))
      replace hb5 := hide hb5
      clear qE
      go_wp2_with (first | (at_builtin; (with_reducible refine wpList_app rfl (.tmp 24) (.tmp 26) rfl hER.out (flat_hiV N) rfl hOa.out rfl (Sl.lit1' w5 31 ((A4, c4) : HI) _ rfl 1 _ ?c0) ?c1 hza ?_); rotate_right; intro A6 c6 w6 hown6 hgr6 hb6 hat6))
      case c0 => rfl
      case c1 => omega
      have hbA : Below w5.heap.size w5 (w5.alloc (.cells #[.slice A4 N c4] 31)) := (Below.refl _ _).alloc (Nat.le_refl _) _
      have hb45 : Below w4.heap.size w4 (w5.alloc (.cells #[.slice A4 N c4] 31)) := hb5.out.trans (hbA.mono hz5)
      have hG6 := (hG5.out.below hbA).push ((hs4.out.below hb45 (.inr (Nat.le_refl _))).more hzr hb45.size) (fun b' off' hN0 e e2 => by
        obtain ⟨b2, o2, e3, g1, -⟩ := hs4.out.at_ hN0
        rw [e] at e3
        cases e3
        have := (hR.out.grow.own.lt _ e2).2
        omega) hown6 hgr6 hat6
      have hBel : Below w.heap.size w w6 := hR.out.below.trans ((hb4.out.mono hzr).trans ((hb45.mono (by omega)).trans hb6))
      have hR6 : Hid (RouW w w6 es N (j + 1) A6 c6 (R ++ [((A4, c4), rndP es N (j + 1))])) :=
        ⟨hG6, by rw [List.map_append, hR.out.vals, List.range_succ (n := j + 1), List.map_append]; rfl, hnew.out, hBel⟩
      go_wp2_with fail
      go_roundw
      case rel => exact ⟨j + 1, A6, c6, _, hjN, rfl, hR6⟩
      case measure => simp [lenV9]; omega

set_option maxRecDepth 100000 in
theorem lastR_calls (A : Option Addr) (base N n c : Nat) (R : List (HI × List Int)) (w : World) (h : GrowI w base N A (n + 1) c R) (hn : n ≤ 1048576) {Ah : Option Addr} {ch : Nat} {s : List Int} (hr : R[n]? = some ((Ah, ch), s)) :
    Calls Tryz.prog 69 #[.slice A (n + 1) c] w fun e w' => e = .returned (.slice Ah N ch) ∧ w = w' := by
  obtain ⟨bo, oo, Ah', ch', s', rfl, -, -, hrj, co, -, -⟩ := h.get (show n < n + 1 by omega)
  rw [hr] at hrj
  cases hrj
  have hi1 : IntKind.i64.wrap (((n + 1 : Nat) : Int) - 1) = (n : Int) := by rw [IntWalk.i64_in _ (by omega)]; omega
  have hi2 : ((n + 1 : Nat) : Int) - 1 = (n : Int) := by omega
  have hj0 : (0 : Int) ≤ (n : Int) := by omega
  have hj1 : (n : Int) < ((n + 1 : Nat) : Int) := by omega
  clear h hr
  go_enter Tryz.func69, Tryz.ntmps69
  go_wp2_with fail
  go_ret
  exact ⟨rfl, rfl⟩
end Go.Proofs.YtcdhgabcajehnaaGreatDoor

namespace Go.Proofs.YtcdhgabcajehnaaGreatDoor
set_option linter.unusedVariables false

section
variable (src : Nat → Prop) (arc : Nat → Nat → Prop)
/-- Reached by at most n arcs. -/
def lay : Nat → Nat → Prop
  | 0, k => src k
  | n + 1, k => lay n k ∨ ∃ a, lay n a ∧ arc a k
theorem lay_mono {n m k : Nat} (h : lay src arc n k) (hm : n ≤ m) : lay src arc m k := by
  induction m with
  | zero =>
    have : n = 0 := by omega
    subst this; exact h
  | succ m ih =>
    rcases Nat.lt_or_ge m n with h1 | h1
    · have : n = m + 1 := by omega
      subst this; exact h
    · exact .inl (ih h1)
/-- The least number of arcs is d. -/
def least (d k : Nat) : Prop := lay src arc d k ∧ ∀ m, m < d → ¬ lay src arc m k
theorem least_uniq {d e k : Nat} (h : least src arc d k) (g : least src arc e k) : d = e := by
  rcases Nat.lt_trichotomy d e with h1 | h1 | h1
  · exact absurd h.1 (g.2 d h1)
  · exact h1
  · exact absurd g.1 (h.2 e h1)
theorem least_of {n k : Nat} (h : lay src arc n k) : ∃ d, d ≤ n ∧ least src arc d k := by
  induction n with
  | zero => exact ⟨0, Nat.le_refl _, h, fun m hm => absurd hm (by omega)⟩
  | succ n ih =>
    by_cases h1 : lay src arc n k
    · obtain ⟨d, h2, h3⟩ := ih h1
      exact ⟨d, by omega, h3⟩
    · refine ⟨n + 1, Nat.le_refl _, h, fun m hm hl => h1 (lay_mono src arc hl (by omega))⟩
theorem least_pred {n k : Nat} (h : least src arc (n + 1) k) : ∃ a, least src arc n a ∧ arc a k := by
  obtain ⟨h1, h2⟩ := h
  rcases h1 with h1 | ⟨a, ha, hk⟩
  · exact absurd h1 (h2 n (by omega))
  · refine ⟨a, ⟨ha, fun m hm hl => ?_⟩, hk⟩
    exact h2 (m + 1) (by omega) (.inr ⟨a, hl, hk⟩)

/-- The numbers that a list of distances tells: the least number of arcs, or a negative one. -/
def DistIs (n : Nat) (out : List Int) : Prop := out.length = n ∧ ∀ (k : Nat) (x : Int), out[k]? = some x → (0 ≤ x → least src arc x.toNat k) ∧ (x < 0 → x = -1 ∧ ∀ m, ¬ lay src arc m k)
/-! ## By rounds -/
/-- What is told behind n rounds. -/
def RoundIs (N n : Nat) (out : List Int) : Prop := out.length = N ∧ ∀ (k : Nat) (x : Int), out[k]? = some x → (0 ≤ x → least src arc x.toNat k ∧ x ≤ n) ∧ (x < 0 → x = -1 ∧ ¬ lay src arc n k)
theorem RoundIs.start {N : Nat} {out : List Int} (hl : out.length = N) (h : ∀ (k : Nat) (x : Int), out[k]? = some x → (x = 0 ∧ src k) ∨ (x = -1 ∧ ¬ src k)) : RoundIs src arc N 0 out := by
  refine ⟨hl, fun k x hx => ?_⟩
  rcases h k x hx with ⟨rfl, hs⟩ | ⟨rfl, hs⟩
  · exact ⟨fun _ => ⟨⟨hs, fun m hm => absurd hm (by omega)⟩, by omega⟩, fun h => absurd h (by omega)⟩
  · exact ⟨fun h => absurd h (by omega), fun _ => ⟨rfl, hs⟩⟩
theorem RoundIs.done {N n : Nat} {out : List Int} (h : RoundIs src arc N n out) (hin : ∀ a k, arc a k → a < N ∧ k < N) (hsrc : ∀ k, src k → k < N)
    (hstop : ∀ (a k : Nat) (x y : Int), arc a k → out[a]? = some x → out[k]? = some y → 0 ≤ x → 0 ≤ y) : DistIs src arc N out := by
  refine ⟨h.1, fun k x hx => ⟨fun h0 => ((h.2 k x hx).1 h0).1, fun h0 => ⟨((h.2 k x hx).2 h0).1, ?_⟩⟩⟩
  have key : ∀ (m k : Nat), lay src arc m k → k < N ∧ ∀ x, out[k]? = some x → 0 ≤ x := by
    intro m
    induction m with
    | zero =>
      intro k hk
      refine ⟨hsrc k hk, fun x hx => ?_⟩
      rcases Int.lt_or_le x 0 with h1 | h1
      · exact absurd (lay_mono src arc (n := 0) (m := n) hk (Nat.zero_le _)) ((h.2 k x hx).2 h1).2
      · exact h1
    | succ m ih =>
      intro k hk
      rcases hk with hk | ⟨a, ha, hak⟩
      · exact ih k hk
      · obtain ⟨h1, h2⟩ := ih a ha
        refine ⟨(hin a k hak).2, fun x hx => ?_⟩
        have hax : out[a]? = some (out[a]'(by rw [h.1]; exact h1)) := List.getElem?_eq_getElem _
        exact hstop a k _ x hak hax hx (h2 _ hax)
  intro m hm
  have := (key m k hm).2 x hx
  omega
/-! ## By a queue -/
/-- The queue's invariant: out tells the least numbers of what was found; what was found and is not in the queue has all its arcs' ends found. -/
structure QueIs (N : Nat) (out : List Int) (todo : List Nat) : Prop where
  len : out.length = N
  exact_ : ∀ (k : Nat) (x : Int), out[k]? = some x → (0 ≤ x → least src arc x.toNat k) ∧ (x < 0 → x = -1)
  src_ : ∀ k, src k → ∃ x : Int, out[k]? = some x ∧ 0 ≤ x
  todo_ : ∀ k, k ∈ todo → ∃ x : Int, out[k]? = some x ∧ 0 ≤ x
  done_ : ∀ (a k : Nat) (x : Int), out[a]? = some x → 0 ≤ x → a ∉ todo → arc a k → ∃ y : Int, out[k]? = some y ∧ 0 ≤ y
  sorted : todo.Pairwise fun a b => ∀ (x y : Int), out[a]? = some x → out[b]? = some y → x ≤ y
  near : ∀ a, todo.head? = some a → ∀ b, b ∈ todo → ∀ (x y : Int), out[a]? = some x → out[b]? = some y → y ≤ x + 1
theorem QueIs.done {N : Nat} {out : List Int} (h : QueIs src arc N out []) (hin : ∀ a k, arc a k → a < N ∧ k < N) (hsrc : ∀ k, src k → k < N) : DistIs src arc N out := by
  refine ⟨h.len, fun k x hx => ⟨(h.exact_ k x hx).1, fun h0 => ⟨(h.exact_ k x hx).2 h0, ?_⟩⟩⟩
  have key : ∀ m k, lay src arc m k → ∃ y : Int, out[k]? = some y ∧ 0 ≤ y := by
    intro m
    induction m with
    | zero => exact fun k hk => h.src_ k hk
    | succ m ih =>
      intro k hk
      rcases hk with hk | ⟨a, ha, hak⟩
      · exact ih k hk
      · obtain ⟨y, hy, hy0⟩ := ih a ha
        exact h.done_ a k y hy hy0 (by simp) hak
  intro m hm
  obtain ⟨y, hy, hy0⟩ := key m k hm
  rw [hx] at hy
  cases hy
  omega
theorem QueIs.found {N : Nat} {out : List Int} {k : Nat} {todo : List Nat} (h : QueIs src arc N out (k :: todo)) {m : Int} (hm : out[k]? = some m) : ∀ (d b : Nat), (d : Int) ≤ m → least src arc d b → ∃ y : Int, out[b]? = some y ∧ 0 ≤ y := by
  intro d
  induction d with
  | zero => exact fun b _ hb => h.src_ b hb.1
  | succ d ih =>
    intro b hd hb
    obtain ⟨a, ha, hab⟩ := least_pred src arc hb
    obtain ⟨y, hy, hy0⟩ := ih a (by omega) ha
    have hyd : y.toNat = d := least_uniq src arc ((h.exact_ a y hy).1 hy0) ha
    refine h.done_ a b y hy hy0 ?_ hab
    intro hin
    rcases List.mem_cons.1 hin with rfl | hin
    · rw [hm] at hy
      cases hy
      omega
    · have := (List.pairwise_cons.1 h.sorted).1 a hin m y hm hy
      omega
theorem QueIs.add {N : Nat} {out : List Int} {k b : Nat} {todo : List Nat} (h : QueIs src arc N out (k :: todo)) {m x : Int} (hm : out[k]? = some m) (hb : out[b]? = some x) (hx : x < 0) (hkb : arc k b) :
    QueIs src arc N (out.set b (m + 1)) (k :: (todo ++ [b])) := by
  have hm0 : 0 ≤ m := by
    obtain ⟨y, hy, hy0⟩ := h.todo_ k (by simp)
    rw [hm] at hy
    cases hy
    exact hy0
  have hbl : b < out.length := (List.getElem?_eq_some_iff.1 hb).1
  have hne : ∀ {j : Nat} {y : Int}, out[j]? = some y → 0 ≤ y → j ≠ b := by
    rintro j y hy hy0 rfl
    rw [hb] at hy
    cases hy
    omega
  have hkeep : ∀ {j : Nat} {y : Int}, out[j]? = some y → 0 ≤ y → (out.set b (m + 1))[j]? = some y := fun hy hy0 => by
    rw [List.getElem?_set_ne (fun e => hne hy hy0 e.symm)]
    exact hy
  have hself : (out.set b (m + 1))[b]? = some (m + 1) := List.getElem?_set_self hbl
  have hlay : least src arc (m + 1).toNat b := by
    have hk := (h.exact_ k m hm).1 hm0
    rw [show (m + 1).toNat = m.toNat + 1 by omega]
    refine ⟨.inr ⟨k, hk.1, hkb⟩, fun j hj hl => ?_⟩
    obtain ⟨d, hd, hld⟩ := least_of src arc hl
    obtain ⟨y, hy, hy0⟩ := h.found src arc hm d b (by omega) hld
    rw [hb] at hy
    cases hy
    omega
  have hold : ∀ {j : Nat} {y : Int}, j ∈ k :: todo → (out.set b (m + 1))[j]? = some y → out[j]? = some y := fun hj hy => by
    obtain ⟨z, hz, hz0⟩ := h.todo_ _ hj
    rw [hkeep hz hz0] at hy
    rw [hz, hy]
  have hmb : ∀ j ∈ k :: todo, ∀ y, out[j]? = some y → y ≤ m + 1 := fun j hj y hy => h.near k rfl j hj m y hm hy
  refine ⟨by rw [List.length_set]; exact h.len, fun j y hy => ?_, fun j hj => ?_, fun j hj => ?_, fun a j y hy hy0 ha haj => ?_, ?_, ?_⟩
  · by_cases e : j = b
    · subst e
      rw [hself] at hy
      cases hy
      exact ⟨fun _ => hlay, fun h0 => absurd h0 (by omega)⟩
    · rw [List.getElem?_set_ne (fun e' => e e'.symm)] at hy
      exact h.exact_ j y hy
  · obtain ⟨y, hy, hy0⟩ := h.src_ j hj
    exact ⟨y, hkeep hy hy0, hy0⟩
  · rw [← List.cons_append, List.mem_append] at hj
    rcases hj with hj | hj
    · obtain ⟨y, hy, hy0⟩ := h.todo_ j hj
      exact ⟨y, hkeep hy hy0, hy0⟩
    · rw [List.mem_singleton.1 hj]
      exact ⟨_, hself, by omega⟩
  · have hab : a ≠ b := by
      rintro rfl
      exact ha (by simp)
    rw [List.getElem?_set_ne (fun e => hab e.symm)] at hy
    obtain ⟨z, hz, hz0⟩ := h.done_ a j y hy hy0 (fun hin => ha (by rw [← List.cons_append, List.mem_append]; exact .inl hin)) haj
    exact ⟨z, hkeep hz hz0, hz0⟩
  · rw [← List.cons_append, List.pairwise_append]
    refine ⟨?_, by simp, fun a ha c hc y z hy hz => ?_⟩
    · refine List.Pairwise.imp_of_mem ?_ h.sorted
      intro a c ha hc hq y z hy hz
      exact hq y z (hold ha hy) (hold hc hz)
    · rw [List.mem_singleton.1 hc, hself] at hz
      cases hz
      exact hmb a ha y (hold ha hy)
  · intro a ha c hc y z hy hz
    cases ha
    have hym := hold (by simp) hy
    rw [hm] at hym
    cases hym
    rw [← List.cons_append, List.mem_append] at hc
    rcases hc with hc | hc
    · exact hmb c hc z (hold hc hz)
    · rw [List.mem_singleton.1 hc, hself] at hz
      cases hz
      omega
theorem QueIs.start {N : Nat} {out : List Int} {todo : List Nat} (hl : out.length = N) (h : ∀ (k : Nat) (x : Int), out[k]? = some x → (x = 0 ∧ src k) ∨ (x = -1 ∧ ¬ src k)) (hs : ∀ k, src k ↔ k ∈ todo) (hN : ∀ k, src k → k < N) : QueIs src arc N out todo := by
  have hz : ∀ k, src k → out[k]? = some 0 := fun k hk => by
    have ho : out[k]? = some (out[k]'(by rw [hl]; exact hN k hk)) := List.getElem?_eq_getElem _
    rcases h k _ ho with ⟨h1, _⟩ | ⟨_, h1⟩
    · rw [ho, h1]
    · exact absurd hk h1
  have hzt : ∀ k x, k ∈ todo → out[k]? = some x → x = 0 := fun k x hk hx => by
    rw [hz k ((hs k).2 hk)] at hx
    exact (Option.some.inj hx).symm
  refine ⟨hl, fun k x hx => ?_, fun k hk => ⟨0, hz k hk, by omega⟩, fun k hk => ⟨0, hz k ((hs k).2 hk), by omega⟩, fun a k x hx hx0 ha _ => ?_, ?_, fun a ha b hb x y hx hy => ?_⟩
  · rcases h k x hx with ⟨rfl, h1⟩ | ⟨rfl, h1⟩
    · exact ⟨fun _ => ⟨h1, fun m hm => absurd hm (by simp)⟩, fun h0 => absurd h0 (by omega)⟩
    · exact ⟨fun h0 => absurd h0 (by omega), fun _ => rfl⟩
  · rcases h a x hx with ⟨rfl, h1⟩ | ⟨rfl, h1⟩
    · exact absurd ((hs a).1 h1) ha
    · omega
  · rw [List.pairwise_iff_forall_sublist]
    intro a b hab x y hx hy
    have ha := hab.subset (List.mem_cons_self)
    have hb := hab.subset (List.mem_cons_of_mem a (List.mem_cons_self))
    rw [hzt a x ha hx, hzt b y hb hy]
    omega
  · rw [hzt a x (List.mem_of_mem_head? ha) hx, hzt b y hb hy]
    omega
end

end Go.Proofs.YtcdhgabcajehnaaGreatDoor

namespace Go.Proofs.YtcdhgabcajehnaaGreatDoor
set_option linter.unusedVariables false

/-- An arc along an edge, forward or backward. -/
def arcE (fw : Bool) (es : List Ed) (a k : Nat) : Prop := ∃ e : Ed, e ∈ es ∧ (if fw = true then e.1 = (a : Int) ∧ e.2.2 = (k : Int) else e.2.2 = (a : Int) ∧ e.1 = (k : Int))
def srcE (l : List Int) (k : Nat) : Prop := (k : Int) ∈ l
section
variable {N n : Nat} {es : List Ed} {out next : List Int} {i : Nat} {e : Ed}
end

/-! ## More on rounds -/
def negs : List Int → Nat
  | [] => 0
  | x :: l => (if x < 0 then 1 else 0) + negs l
theorem negs_set : ∀ {l : List Int} {k : Nat} {z v : Int}, l[k]? = some z → z < 0 → 0 ≤ v → negs (l.set k v) + 1 = negs l
  | [], k, z, v, h, _, _ => by simp at h
  | x :: l, 0, z, v, h, hz, hv => by
    simp at h
    subst h
    simp only [List.set_cons_zero, negs]
    rw [if_neg (by omega), if_pos hz]
    omega
  | x :: l, k + 1, z, v, h, hz, hv => by
    have := negs_set (l := l) (k := k) (v := v) (by simpa using h) hz hv
    simp only [List.set_cons_succ, negs]
    omega
section
variable {es : List Ed} {vs : List Int} {N rd i : Nat} {out nx : List Int}
end
end Go.Proofs.YtcdhgabcajehnaaGreatDoor

namespace Go.Proofs.YtcdhgabcajehnaaGreatDoor
open Go.ChangeShapes Go.WideShapes Go.ChangeAt Go.RowKit
set_option linter.unusedVariables false

/-- The slice value `.slice A n c` is the call's own (a block from base on, at whatever offset), and holds l. -/
def OwnQ (w : World) (base : Nat) (A : Option Addr) (n c : Nat) (l : List Int) : Prop :=
  l.length = n ∧ ((A = none ∧ n = 0 ∧ c = 0) ∨ ∃ g off cur, A = some ⟨g, off, none⟩ ∧ base ≤ g ∧ w.heap[g]? = some (.cells cur 2 (0, 0)) ∧ n ≤ c ∧ c ≤ maxLen ∧ off + c ≤ cur.size ∧ ∀ (i : Nat) (x : Int), l[i]? = some x → cur[off + i]? = some (.int .i64 x))

section
variable {w w' : World} {base n c : Nat} {A : Option Addr} {l : List Int}
theorem OwnQ.len (h : OwnQ w base A n c l) : l.length = n := h.1
theorem OwnQ.of (h : Own 1 iv w base 2 A n c l) : OwnQ w base A n c l := by
  refine ⟨h.1, ?_⟩
  rcases h.2.2 with ⟨hv, h0⟩ | ⟨g, cap, cur, hv, hb, hg, hnc, hcm, hcs, htake⟩
  · injection hv with h1 _ h3
    exact .inl ⟨h1, h0, h3⟩
  · injection hv with h1 _ h3
    subst h1 h3
    refine .inr ⟨g, 0, cur, rfl, hb, hg, hnc, hcm, by omega, fun i x hx => ?_⟩
    have h1 := flat_at flat_iv l i x hx 0 _ rfl
    rw [← htake] at h1
    rw [List.getElem?_take] at h1
    split at h1
    · simpa using h1
    · cases h1
theorem OwnQ.keep (h : OwnQ w base A n c l) (hk : ∀ g, base ≤ g → (Value.slice A n c).ownBlock = some g → w'.heap[g]? = w.heap[g]?) : OwnQ w' base A n c l := by
  refine ⟨h.1, ?_⟩
  rcases h.2 with hn | ⟨g, off, cur, rfl, hb, hg, rest⟩
  · exact .inl hn
  · exact .inr ⟨g, off, cur, rfl, hb, (hk g hb rfl).trans hg, rest⟩
theorem OwnQ.lt (h : OwnQ w base A n c l) : ∀ g, (Value.slice A n c).ownBlock = some g → base ≤ g ∧ g < w.heap.size := by
  intro g hg
  rcases h.2 with ⟨rfl, _⟩ | ⟨g', off, cur, rfl, hb, hg', rest⟩
  · cases hg
  · cases hg
    exact ⟨hb, (Array.getElem?_eq_some_iff.1 hg').1⟩
theorem OwnQ.kept {row : Option Nat} (h : OwnQ w base A n c l) (hg : w.grownBy w' row) (hne : (Value.slice A n c).ownBlock = none ∨ (Value.slice A n c).ownBlock ≠ row) : OwnQ w' base A n c l :=
  h.keep fun g _ e => hg.block g (h.lt g e).2 (by
    rcases hne with hne | hne
    · rw [e] at hne; cases hne
    · rw [e] at hne; exact hne)
theorem OwnQ.alloc (h : OwnQ w base A n c l) (o : Obj) : OwnQ (w.alloc o) base A n c l := h.kept (World.grownBy_alloc w o none) (by cases (Value.slice A n c).ownBlock <;> simp)
theorem OwnQ.drewN (h : OwnQ w base A n c l) (k : Nat) : OwnQ (w.drewN k) base A n c l := h
/-- The first element. -/
theorem OwnQ.head {x : Int} {r : List Int} (h : OwnQ w base A n c (x :: r)) : ∃ g off, A = some ⟨g, off, none⟩ ∧ w.cell? ⟨g, off, none⟩ = some (.int .i64 x) ∧ 0 < n ∧ n ≤ c := by
  have hl := h.1
  simp at hl
  rcases h.2 with ⟨rfl, h0, _⟩ | ⟨g, off, cur, rfl, hb, hg, h1, h2, h3, h4⟩
  · omega
  · refine ⟨g, off, rfl, (cell_of_row w g off cur _ (0, 0) hg).trans ?_, by omega, h1⟩
    have := h4 0 x rfl
    simpa using this
/-- `q[1:]`. -/
theorem OwnQ.cut {x : Int} {r : List Int} (h : OwnQ w base A n c (x :: r)) : OwnQ w base (cutA A 1 c 1) (n - 1) (c - 1) r := by
  have hl := h.1
  simp at hl
  rcases h.2 with ⟨rfl, h0, _⟩ | ⟨g, off, cur, rfl, hb, hg, h1, h2, h3, h4⟩
  · omega
  · refine ⟨by omega, .inr ?_⟩
    by_cases hc : c = 1
    · subst hc
      refine ⟨g, off, cur, by simp [cutA], hb, hg, by omega, by unfold maxLen; omega, by omega, fun i y hy => ?_⟩
      have hr : r = [] := List.eq_nil_of_length_eq_zero (by omega)
      subst hr
      simp at hy
    · refine ⟨g, off + 1, cur, by unfold cutA; rw [if_neg hc, Option.map_some, addr_add], hb, hg, by omega, by omega, by omega, fun i y hy => ?_⟩
      have := h4 (i + 1) y (by simpa using hy)
      rw [show off + 1 + i = off + (i + 1) by omega]
      exact this
end

end Go.Proofs.YtcdhgabcajehnaaGreatDoor

namespace Go.Proofs.YtcdhgabcajehnaaGreatDoor
open Go.ChangeShapes Go.WideShapes Go.ChangeAt Go.RowKit Go.Sort
set_option linter.unusedVariables false
set_option linter.unusedSimpArgs false

/-- The two things that the search writes. -/
structure MemD (W : World) (bo oo n : Nat) (out : List Int) (qb : Nat) (A : Option Addr) (q c : Nat) (todo : List Int) : Prop where
  out : SlI W bo (bo + 1) (some ⟨bo, oo, none⟩) n out
  que : OwnQ W qb A q c todo
  o1 : bo < qb
  o2 : qb ≤ W.heap.size
section
variable {W W' : World} {bo oo n qb q c : Nat} {out : List Int} {A : Option Addr} {todo : List Int}
theorem MemD.put (h : MemD W bo oo n out qb A q c todo) {k : Nat} (hk : k < n) (x : Int) : MemD (W.setCell ⟨bo, oo + k, none⟩ (.int .i64 x)) bo oo n (out.set k x) qb A q c todo :=
  ⟨SlI.put' h.out hk x, h.que.keep fun g hg _ => Below.heap_setCell _ _ _ _ (by have := h.o1; show g ≠ bo; omega), h.o1, by rw [World.size_setCell]; exact h.o2⟩
theorem MemD.alloc (h : MemD W bo oo n out qb A q c todo) (o : Obj) : MemD (W.alloc o) bo oo n out qb A q c todo := by
  have h1 := h.o1
  have h2 := h.o2
  exact ⟨Sl.keep h.out (by simp) fun b _ _ hb => Below.heap_alloc _ _ _ hb, h.que.alloc o, h1, by simp; omega⟩
theorem MemD.drewN (h : MemD W bo oo n out qb A q c todo) (k : Nat) : MemD (W.drewN k) bo oo n out qb A q c todo := ⟨h.out.drewN k, h.que.drewN k, h.o1, h.o2⟩
theorem MemD.app (h : MemD W bo oo n out qb A q c todo) {A' : Option Addr} {q' c' : Nat} {todo' : List Int} (hq : OwnQ W' qb A' q' c' todo') (hg : W.grownBy W' (Value.slice A q c).ownBlock) : MemD W' bo oo n out qb A' q' c' todo' := by
  have h1 := h.o1
  have h2 := h.o2
  have hne : ∀ b, b < qb → some b ≠ (Value.slice A q c).ownBlock := fun b hb e => by
    have := (h.que.lt b e.symm).1
    omega
  exact ⟨Sl.keep h.out hg.size fun b hb1 hb2 hb3 => hg.block b hb3 (hne b (by omega)), hq, h1, Nat.le_trans h2 hg.size⟩
theorem MemD.cut {x : Int} (h : MemD W bo oo n out qb A q c (x :: todo)) : MemD W bo oo n out qb (cutA A 1 c 1) (q - 1) (c - 1) todo := ⟨h.out, h.que.cut, h.o1, h.o2⟩
end

/-- The first k beginnings are marked. -/
def Marks (N : Nat) (l : List Int) (k : Nat) (out : List Int) : Prop := out.length = N ∧ ∀ (j : Nat) (x : Int), out[j]? = some x → (x = 0 ∧ (j : Int) ∈ l.take k) ∨ (x = -1 ∧ ¬ (j : Int) ∈ l.take k)
theorem Marks.zero (N : Nat) (l : List Int) : Marks N l 0 (List.replicate N (-1)) := by
  refine ⟨by simp, fun j x hx => .inr ⟨?_, by simp⟩⟩
  exact List.eq_of_mem_replicate (List.mem_of_getElem? hx)
theorem Marks.step {N : Nat} {l : List Int} {k v : Nat} {out : List Int} (h : Marks N l k out) (hx : l[k]? = some (v : Int)) : Marks N l (k + 1) (out.set v 0) := by
  refine ⟨by rw [List.length_set]; exact h.1, fun j x hj => ?_⟩
  have hmem : ∀ i : Nat, (i : Int) ∈ l.take (k + 1) ↔ (i : Int) ∈ l.take k ∨ i = v := fun i => by
    rw [List.take_add_one, hx, List.mem_append]
    constructor
    · rintro (h1 | h1)
      · exact .inl h1
      · simp at h1
        exact .inr (by omega)
    · rintro (h1 | h1)
      · exact .inl h1
      · subst h1
        exact .inr (by simp)
  by_cases e : v = j
  · subst e
    have hl : v < out.length := by
      have := (List.getElem?_eq_some_iff.1 hj).1
      rwa [List.length_set] at this
    rw [List.getElem?_set_self hl] at hj
    exact .inl ⟨(Option.some.inj hj).symm, (hmem v).2 (.inr rfl)⟩
  · rw [List.getElem?_set_ne e] at hj
    rcases h.2 j x hj with ⟨h1, h2⟩ | ⟨h1, h2⟩
    · exact .inl ⟨h1, (hmem j).2 (.inl h2)⟩
    · exact .inr ⟨h1, fun hc => by
        rcases (hmem j).1 hc with h3 | h3
        · exact h2 h3
        · exact e h3.symm⟩
theorem Marks.all {N n : Nat} {l : List Int} {out : List Int} (h : Marks N l n out) (hl : l.length ≤ n) : ∀ (j : Nat) (x : Int), out[j]? = some x → (x = 0 ∧ srcE l j) ∨ (x = -1 ∧ ¬ srcE l j) := fun j x hx => by
  have := h.2 j x hx
  rwa [List.take_of_length_le hl] at this

/-- The edges looked at lead from k to what was found. -/
def FoundE (fw : Bool) (es : List Ed) (i : Nat) (k : Nat) (out : List Int) : Prop := ∀ b, arcE fw (es.take i) k b → ∃ y : Int, out[b]? = some y ∧ 0 ≤ y
theorem FoundE.zero (fw : Bool) (es : List Ed) (k : Nat) (out : List Int) : FoundE fw es 0 k out := by
  rintro b ⟨e, hm, _⟩
  simp at hm
theorem FoundE.set {fw : Bool} {es : List Ed} {i k : Nat} {out : List Int} (h : FoundE fw es i k out) (v : Nat) {x : Int} (hx : 0 ≤ x) (hv : v < out.length) : FoundE fw es i k (out.set v x) := fun b hb => by
  obtain ⟨y, hy, hy0⟩ := h b hb
  by_cases e : v = b
  · subst e
    exact ⟨x, List.getElem?_set_self hv, hx⟩
  · exact ⟨y, by rw [List.getElem?_set_ne e]; exact hy, hy0⟩
/-- What is told is not more than how many are told. -/
def BoundD (N : Nat) (out : List Int) : Prop := ∀ (j : Nat) (x : Int), out[j]? = some x → x + (negs out : Int) ≤ (N : Int)
theorem BoundD.set {N v : Nat} {out : List Int} (h : BoundD N out) {k : Nat} {m z : Int} (hk : out[k]? = some m) (hz : out[v]? = some z) (hz0 : z < 0) (hm : 0 ≤ m) : BoundD N (out.set v (m + 1)) := fun j x hj => by
  have hn := negs_set (v := m + 1) hz hz0 (by omega)
  have h1 := h k m hk
  by_cases e : v = j
  · subst e
    rw [List.getElem?_set_self (List.getElem?_eq_some_iff.1 hz).1] at hj
    have := Option.some.inj hj
    omega
  · rw [List.getElem?_set_ne e] at hj
    have := h j x hj
    omega
end Go.Proofs.YtcdhgabcajehnaaGreatDoor

namespace Go.Proofs.YtcdhgabcajehnaaGreatDoor
set_option linter.unusedVariables false

/-- The edges with these numbers lead from x to y. -/
def WayE (es : List Ed) : Nat → List Int → Nat → Prop
  | x, [], y => x = y
  | x, i :: l, y => ∃ (e : Ed) (z : Nat), 0 ≤ i ∧ es[i.toNat]? = some e ∧ e.1 = (x : Int) ∧ e.2.2 = (z : Int) ∧ WayE es z l y
theorem WayE.range {es : List Ed} {x y : Nat} {l : List Int} (h : WayE es x l y) : ∀ i, i ∈ l → 0 ≤ i ∧ i < (es.length : Int) := by
  induction l generalizing x with
  | nil => exact fun i hi => absurd hi List.not_mem_nil
  | cons j l ih =>
    obtain ⟨e', z', g0, g1, g2, g3, g4⟩ := h
    intro i hi
    rcases List.mem_cons.1 hi with rfl | hi
    · have := (List.getElem?_eq_some_iff.1 g1).1
      omega
    · exact ih g4 i hi
theorem drop_cons {α : Type} {l : List α} {k : Nat} {x : α} (h : l[k]? = some x) : l.drop k = x :: l.drop (k + 1) := by
  obtain ⟨h1, h2⟩ := List.getElem?_eq_some_iff.1 h
  rw [List.drop_eq_getElem_cons h1, h2]
theorem WayE.step {es : List Ed} {x y k : Nat} {l : List Int} {i : Int} (h : WayE es x (l.drop k) y) (hi : l[k]? = some i) : ∃ (e : Ed) (z : Nat), 0 ≤ i ∧ es[i.toNat]? = some e ∧ e.1 = (x : Int) ∧ e.2.2 = (z : Int) ∧ WayE es z (l.drop (k + 1)) y := by
  rw [drop_cons hi] at h
  exact h
theorem WayE.done {es : List Ed} {x y k : Nat} {l : List Int} (h : WayE es x (l.drop k) y) (hk : l.length ≤ k) : x = y := by
  rw [List.drop_eq_nil_of_le hk] at h
  exact h
end Go.Proofs.YtcdhgabcajehnaaGreatDoor

namespace Go.Proofs.YtcdhgabcajehnaaGreatDoor
open Go.ChangeShapes Go.WideShapes Go.ChangeAt Go.RowKit
set_option linter.unusedVariables false
set_option linter.unusedSimpArgs false

theorem mem_sum : ∀ {l : List Nat} {x : Nat}, x ∈ l → x ≤ l.sum
  | a :: l, x, h => by
    rw [List.sum_cons]
    rcases List.mem_cons.1 h with e | e
    · omega
    · have := mem_sum e; omega
/-- A valid system. -/
structure SysA (w : World) (N ini : Nat) (A : Option Addr) (n : Nat) (B : Option Addr) (m : Nat) (ls : List ByteArray) (es : List Ed) : Prop where
  ss : SlS w 0 w.heap.size A n ls
  se : SlE w 0 w.heap.size B m es
  ok : ltsV ((N : Int), (ini : Int), ls, es) = true
  sz : totS ls ≤ 100000
theorem Sl.here' {α : Type} {size : Nat} {f : α → List Value} {w : World} {lo hi n : Nat} {A : Option Addr} {l : List α} (h : Sl size f w lo hi A n l) : Sl size f w 0 w.heap.size A n l :=
  ⟨h.1, fun hn => by
    obtain ⟨b, off, e, g1, g2, g3, hc⟩ := h.2 hn
    exact ⟨b, off, e, Nat.zero_le _, g3, g3, hc⟩⟩
section
variable {w w' : World} {N ini : Nat} {A : Option Addr} {n c : Nat} {B : Option Addr} {m d : Nat} {ls : List ByteArray} {es : List Ed}
theorem SysA.below {K : Nat} (h : SysA w N ini A n B m ls es) (hb : Below K w w') (hK : w.heap.size ≤ K) : SysA w' N ini A n B m ls es :=
  ⟨(h.ss.below hb (.inr hK)).here', (h.se.below hb (.inr hK)).here', h.ok, h.sz⟩
theorem SysA.edges (h : SysA w N ini A n B m ls es) : EdIn N es := fun e he => by
  have := (ltsV_edge h.ok).1 e he
  exact ⟨this.1, this.2.1.1, this.2.2⟩
theorem SysA.labs (h : SysA w N ini A n B m ls es) : ∀ e, e ∈ es → 0 ≤ e.2.1 ∧ e.2.1 < (ls.length : Int) := fun e he => ((ltsV_edge h.ok).1 e he).2.1
theorem SysA.bounds (h : SysA w N ini A n B m ls es) : (1 ≤ N ∧ N ≤ 40) ∧ ini < N := by
  have := (ltsV_edge h.ok).2
  omega
theorem SysA.many (h : SysA w N ini A n B m ls es) : m ≤ 300 ∧ n ≤ 12 ∧ 1 ≤ n ∧ es.length = m ∧ ls.length = n := by
  have h1 := h.ok
  rw [ltsV_eq] at h1
  simp only [Bool.and_eq_true, decide_eq_true_eq] at h1
  obtain ⟨⟨-, -, h3, h4⟩, -⟩ := h1
  unfold namesB at h3
  rw [Bool.and_eq_true] at h3
  have h5 := inB_true.1 h3.1
  have := h.ss.len
  have := h.se.len
  omega
theorem SysA.read (h : SysA w N ini A n B m ls es) (c d : Nat) : ReadL w 0 w.heap.size ((N : Int), (ini : Int), .slice A n c, .slice B m d) ((N : Int), (ini : Int), ls, es) ∧ totL ((N : Int), (ini : Int), ls, es) ≤ 1048576 := by
  have hm := h.many
  have hz := h.sz
  have hml : 100000 ≤ maxLen := by unfold maxLen; omega
  refine ⟨⟨rfl, rfl, ⟨A, n, c, rfl, by omega, ?_, h.ss⟩, ⟨B, m, d, rfl, by omega, h.se⟩⟩, ?_⟩
  · intro s hs
    have hs : s ∈ ls := hs
    have h1 : s.size ≤ (ls.map (·.size)).sum := mem_sum (List.mem_map_of_mem hs)
    unfold totS at hz
    omega
  · unfold totL
    show totS ls + es.length ≤ 1048576
    omega
set_option maxRecDepth 100000 in
theorem SysA.valid (h : SysA w N ini A n B m ls es) (c d : Nat) (he : Env w) :
    Calls Tryz.prog 29 #[.agg #[.int .i64 (N : Int), .int .i64 (ini : Int), .slice A n c, .slice B m d]] w fun e w' => e = .returned (.bool true) ∧ Below w.heap.size w w' := by
  have q := validLts_calls ((N : Int), (ini : Int), .slice A n c, .slice B m d) ((N : Int), (ini : Int), ls, es) w 0 w.heap.size (h.read c d).1 (h.read c d).2 he
  rw [h.ok] at q
  exact q
end
/-- What is drawn is a valid system. -/
theorem DrawnG.sys {K M Q b N : Nat} {w w' : World} {e : Ending} (h : DrawnG K M Q b N w e w') (hK : K ≤ 12) : ∃ (st ini : Nat) (A : Option Addr) (n c : Nat) (B : Option Addr) (m d : Nat) (ls : List ByteArray) (es : List Ed),
    e = .returned (.agg #[.int .i64 (st : Int), .int .i64 (ini : Int), .slice A n c, .slice B m d]) ∧ SysA w' st ini A n B m ls es ∧ st ≤ 7 ∧ es.length ≤ M ∧ n ≤ K ∧ NamD ls ∧ SrcW w' b (N + Q) ∧ Only b (b + 1) w w' ∧ SlS w' w.heap.size w'.heap.size A n ls ∧ SlE w' w.heap.size w'.heap.size B m es := by
  obtain ⟨st, ini, A, n, c, B, m, d, ts, es, rfl, hA, hB, hv, h7, hM, hn, hD, hS, hO⟩ := h
  have hnam : NamD (joiF ts) := fun x hx => ((joi_mem_iff ts x).1 hx).elim .inl (hD x)
  refine ⟨st, ini, A, n, c, B, m, d, joiF ts, es, rfl, ⟨hA.here', hB.here', hv, ?_⟩, h7, hM, hn, hnam, hS, hO, hA, hB⟩
  have hl := hA.len
  have key : ∀ l : List ByteArray, NamD l → (l.map (·.size)).sum ≤ 6 * l.length := by
    intro l
    induction l with
    | nil => intro _; simp
    | cons x l ih =>
      intro hx
      have h1 := ih fun y hy => hx y (List.mem_cons_of_mem _ hy)
      have h2 : x.size ≤ 6 := by
        rcases hx x (List.mem_cons_self ..) with e | e
        · rw [e]; decide
        · unfold nm5 at e
          simp only [List.mem_cons, List.mem_nil_iff, or_false] at e
          rcases e with rfl | rfl | rfl | rfl | rfl <;> decide
      simp only [List.map_cons, List.sum_cons, List.length_cons]
      omega
  have := key _ hnam
  unfold totS
  omega
end Go.Proofs.YtcdhgabcajehnaaGreatDoor
