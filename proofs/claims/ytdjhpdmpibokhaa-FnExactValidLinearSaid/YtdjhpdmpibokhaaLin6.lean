/-
  Linear processes as arguments of a law: copies and comparisons of linear processes. Conditions: at most 1048576 elements.
-/
import Derived.Test.YtdjhpdmpibokhaaLin5
namespace Go.Proofs.Ytdjhpdmpibokhaa
open Go.ChangeShapes Go.WideShapes Go.ChangeAt Go.RowKit Go.Deep
set_option linter.unusedVariables false

set_option maxHeartbeats 800000 in
set_option maxRecDepth 100000 in
theorem eqSummandS_a {v u : Value} {d e : List DSu} {w : World} {lo hi lo' hi' : Nat} (h : ArgSuS w lo hi v d) (g : ArgSuS w lo' hi' u e) (hts : totSuS d ≤ 1048576) (gts : totSuS e ≤ 1048576) :
    Calls Try.prog 92 #[v, u] w fun r w' => r = .returned (.bool (decide (d = e))) ∧ Below w.heap.size w w' := by
  obtain ⟨A, n, c, R, rfl, hn0, h, rfl⟩ := h
  obtain ⟨B, m, d, S, rfl, hm0, g, rfl⟩ := g
  have hl := hide h.len
  have hr := hide g.len
  have hn : n ≤ 1048576 := by unfold totSuS at hts; rw [List.length_map, hl.out] at hts; omega
  have hm : m ≤ 1048576 := by unfold totSuS at gts; rw [List.length_map, hr.out] at gts; omega
  replace hts := hide hts
  replace gts := hide gts
  by_cases hnm : n = m
  · subst hnm
    replace h := hide h
    replace g := hide g
    go_enter Try.func92, Try.ntmps92
    go_wp2
    go_loopw [5] (fun i wr => ∃ k : Nat, k ≤ n ∧ i = .int .i64 k ∧ Below w.heap.size w wr ∧ (R.map (·.2)).take k = (S.map (·.2)).take k) (fun i _ => n - (intOf i).toNat)
    case atStart => exact ⟨0, Nat.zero_le _, rfl, (Below.refl _ _), rfl⟩
    case round =>
      obtain ⟨k, hk, rfl, hb, he⟩ := hrel
      replace he := hide he
      by_cases hlt : k < n
      · obtain ⟨b, off, v0, v1, nm, v3, v4, s, rfl, g1, g2, g3, hx, c0, c1, c2, c3, c4, hs⟩ := (h.out.below lawsSu hb (.inr (Nat.le_refl _))).getSu hlt
        obtain ⟨b', off', v0', v1', nm', v3', v4', s', rfl, g1', g2', g3', hy, d0, d1, d2, d3, d4, hs'⟩ := (g.out.below lawsSu hb (.inr (Nat.le_refl _))).getSu hlt
        have hx2 := hide (show (R.map (·.2))[k]? = some s by rw [List.getElem?_map, hx]; rfl)
        have hy2 := hide (show (S.map (·.2))[k]? = some s' by rw [List.getElem?_map, hy]; rfl)
        have hq := eqSummand_a (w := wr.drew) (hs.below (Below.refl wr.heap.size wr).drew (.inr (Nat.le_refl _))) (hs'.below (Below.refl wr.heap.size wr).drew (.inr (Nat.le_refl _))) (Nat.le_trans (mem_tot (List.mem_of_getElem? hx2.out)) hts.out) (Nat.le_trans (mem_tot (List.mem_of_getElem? hy2.out)) gts.out)
        dsimp only at hq
        clear h g hx hy hs hs'
        have hk0 : (0 : Int) ≤ (k : Int) := by omega
        have hk1 : (k : Int) < (n : Int) := by omega
        by_cases hxy : s = s'
        · subst hxy
          rw [decide_eq_true rfl] at hq
          replace hq := hide hq
          go_wp2
          go_still_tail 8, (by kernel_rfl)
          change wpList _ _ _ _ _ wr.drew
          go_wp2_with (go_at_call 118; (with_reducible refine hq.out.mono ?_); rintro e w1 ⟨rfl, hb1⟩)
          go_roundw
          case rel => exact ⟨k + 1, by omega, by go_num, hb.drew.trans (hb1.mono hb.size), take_step he.out hx2.out hy2.out rfl⟩
          case measure => simp [intOf]; omega
        · rw [decide_eq_false hxy] at hq
          replace hq := hide hq
          have hne := hide (take_stop hx2.out hy2.out hxy)
          clear hxy
          go_wp2
          go_still_tail 8, (by kernel_rfl)
          change wpList _ _ _ _ _ wr.drew
          go_wp2_with (go_at_call 118; (with_reducible refine hq.out.mono ?_); rintro e w1 ⟨rfl, hb1⟩)
          go_ret
          exact ⟨by rw [decide_eq_false hne.out]; rfl, hb.drew.trans (hb1.mono hb.size)⟩
      · have hkn : k = n := by omega
        subst hkn
        go_wp2
        go_ret
        exact ⟨by rw [take_all he.out (by rw [List.length_map]; exact hl.out) (by rw [List.length_map]; exact hr.out)]; simp, hb⟩
  · have hne : Hid (R.map (·.2) ≠ S.map (·.2)) := fun e => hnm (by rw [← hl.out, ← hr.out]; have := congrArg List.length e; simpa using this)
    have hb0 : ((n : Int) != (m : Int)) = true := by rw [bne_iff_ne]; omega
    clear h g
    go_enter Try.func92, Try.ntmps92
    go_wp2
    go_ret
    exact ⟨by rw [decide_eq_false hne.out]; rfl, Below.refl _ _⟩

theorem totLi_eq (a : Int) (b : List Int) (c : List DSu) : totLi (a, b, c) = b.length + totSuS c := rfl
set_option maxHeartbeats 1600000 in
set_option maxRecDepth 100000 in
theorem toLinear_a {x : CLi} {d : DLi} {w : World} {lo hi : Nat} (h : ReadLi w lo hi x d) (ht : totLi d ≤ 1048576) :
    Calls Try.prog 46 #[.agg #[.int .i64 x.1, x.2.1, x.2.2]] w fun e w' => ∃ y : CLi, e = .returned (.agg #[.int .i64 y.1, y.2.1, y.2.2]) ∧ ReadLi w' w.heap.size w'.heap.size y d ∧ Below w.heap.size w w' := by
  obtain ⟨v0, v1, v2⟩ := x
  obtain ⟨d0, d1, d2⟩ := d
  obtain ⟨rfl, t1, t2⟩ := h
  dsimp only at *
  rw [totLi_eq] at ht
  have q1 := hide (fun W (hW : Below w.heap.size w W) => toInt64S_a (t1.below hW (.inr (Nat.le_refl _))) (by omega))
  have q2 := hide (fun W (hW : Below w.heap.size w W) => toSummandS_a (t2.below hW (.inr (Nat.le_refl _))) (by omega))
  clear t1 t2
  have k0 : (((w.alloc (.cells #[.int .i64 v0, v1, v2] 61)).alloc (.cells #[.int .i64 0, .slice none 0 0, .slice none 0 0] 66)).alloc (.cells #[.int .i64 v0, .slice none 0 0, .slice none 0 0] 66)).heap[w.heap.size]? = some (.cells #[.int .i64 v0, v1, v2] 61 (0, 0)) := (Below.heap_alloc _ _ _ (by simp only [World.size_alloc]; omega)).trans ((Below.heap_alloc _ _ _ (by simp only [World.size_alloc]; omega)).trans (heap_alloc_new w _))
  have k1 : (((w.alloc (.cells #[.int .i64 v0, v1, v2] 61)).alloc (.cells #[.int .i64 0, .slice none 0 0, .slice none 0 0] 66)).alloc (.cells #[.int .i64 v0, .slice none 0 0, .slice none 0 0] 66)).heap[w.heap.size + 1]? = some (.cells #[.int .i64 0, .slice none 0 0, .slice none 0 0] 66 (0, 0)) := by have h := heap_alloc_new (w.alloc (.cells #[.int .i64 v0, v1, v2] 61)) (.cells #[.int .i64 0, .slice none 0 0, .slice none 0 0] 66); rw [World.size_alloc] at h; exact (Below.heap_alloc _ _ _ (by simp only [World.size_alloc]; omega)).trans h
  have k2 : (((w.alloc (.cells #[.int .i64 v0, v1, v2] 61)).alloc (.cells #[.int .i64 0, .slice none 0 0, .slice none 0 0] 66)).alloc (.cells #[.int .i64 v0, .slice none 0 0, .slice none 0 0] 66)).heap[w.heap.size + 1 + 1]? = some (.cells #[.int .i64 v0, .slice none 0 0, .slice none 0 0] 66 (0, 0)) := by have h := heap_alloc_new ((w.alloc (.cells #[.int .i64 v0, v1, v2] 61)).alloc (.cells #[.int .i64 0, .slice none 0 0, .slice none 0 0] 66)) (.cells #[.int .i64 v0, .slice none 0 0, .slice none 0 0] 66); rw [World.size_alloc, World.size_alloc] at h; exact h
  have hb : Below w.heap.size w (((w.alloc (.cells #[.int .i64 v0, v1, v2] 61)).alloc (.cells #[.int .i64 0, .slice none 0 0, .slice none 0 0] 66)).alloc (.cells #[.int .i64 v0, .slice none 0 0, .slice none 0 0] 66)) := (((Below.refl _ _).alloc (Nat.le_refl _) _).alloc (by simp only [World.size_alloc]; omega) _).alloc (by simp only [World.size_alloc]; omega) _
  have hz : w.heap.size + 1 + 1 < (((w.alloc (.cells #[.int .i64 v0, v1, v2] 61)).alloc (.cells #[.int .i64 0, .slice none 0 0, .slice none 0 0] 66)).alloc (.cells #[.int .i64 v0, .slice none 0 0, .slice none 0 0] 66)).heap.size := by simp only [World.size_alloc]; omega
  go_enter Try.func46, Try.ntmps46
  go_wp2_with fail
  generalize (((w.alloc (.cells #[.int .i64 v0, v1, v2] 61)).alloc (.cells #[.int .i64 0, .slice none 0 0, .slice none 0 0] 66)).alloc (.cells #[.int .i64 v0, .slice none 0 0, .slice none 0 0] 66)) = W at *
  refine (q1.out _ hb).mono ?_
  rintro e w1 ⟨u1, rfl, g1, hb1⟩
  replace k0 := (hb1.block _ (by omega)).trans k0
  replace k1 := (hb1.block _ (by omega)).trans k1
  replace k2 := (hb1.block _ (by omega)).trans k2
  have hz1 := hb1.size
  try simp only [World.size_setCell] at hz1
  replace g1 := g1.more (lo' := w.heap.size + 1 + 1 + 1) (hi' := w1.heap.size) hz (Nat.le_refl _)
  obtain ⟨A1, n1, c1, rfl⟩ := g1.shape
  replace hb := hb.trans (hb1.mono hb.size)
  replace hz := Nat.lt_of_lt_of_le hz hb1.size
  clear hz1 hb1
  have a0 : w1.cell? ⟨w.heap.size, 0, none⟩ = some (.int .i64 v0) := (cell_of_row _ _ 0 _ _ (0, 0) k0).trans rfl
  have b0 : w1.cell? ⟨w.heap.size + 1 + 1, 0, none⟩ = some (.int .i64 v0) := (cell_of_row _ _ 0 _ _ (0, 0) k2).trans rfl
  have f0 := frozen_of_row _ _ 0 _ _ k2
  have r0 : w1.cell? ⟨w.heap.size + 1, 0, none⟩ = some (.int .i64 0) := (cell_of_row _ _ 0 _ _ (0, 0) k1).trans rfl
  have s0 := frozen_of_row _ _ 0 _ _ k1
  have a1 : w1.cell? ⟨w.heap.size, 1, none⟩ = some (v1) := (cell_of_row _ _ 1 _ _ (0, 0) k0).trans rfl
  have b1 : w1.cell? ⟨w.heap.size + 1 + 1, 1, none⟩ = some (.slice none 0 0) := (cell_of_row _ _ 1 _ _ (0, 0) k2).trans rfl
  have f1 := frozen_of_row _ _ 1 _ _ k2
  have r1 : w1.cell? ⟨w.heap.size + 1, 1, none⟩ = some (.slice none 0 0) := (cell_of_row _ _ 1 _ _ (0, 0) k1).trans rfl
  have s1 := frozen_of_row _ _ 1 _ _ k1
  have a2 : w1.cell? ⟨w.heap.size, 2, none⟩ = some (v2) := (cell_of_row _ _ 2 _ _ (0, 0) k0).trans rfl
  have b2 : w1.cell? ⟨w.heap.size + 1 + 1, 2, none⟩ = some (.slice none 0 0) := (cell_of_row _ _ 2 _ _ (0, 0) k2).trans rfl
  have f2 := frozen_of_row _ _ 2 _ _ k2
  have r2 : w1.cell? ⟨w.heap.size + 1, 2, none⟩ = some (.slice none 0 0) := (cell_of_row _ _ 2 _ _ (0, 0) k1).trans rfl
  have s2 := frozen_of_row _ _ 2 _ _ k1
  go_wp2_with fail
  replace k0 : (w1.setCell ⟨w.heap.size + 1 + 1, 1, none⟩ (.slice A1 n1 c1)).heap[w.heap.size]? = _ := (Below.heap_setCell _ _ _ _ (by show w.heap.size ≠ w.heap.size + 1 + 1; omega)).trans k0
  replace k1 : (w1.setCell ⟨w.heap.size + 1 + 1, 1, none⟩ (.slice A1 n1 c1)).heap[w.heap.size + 1]? = _ := (Below.heap_setCell _ _ _ _ (by show w.heap.size + 1 ≠ w.heap.size + 1 + 1; omega)).trans k1
  replace k2 : (w1.setCell ⟨w.heap.size + 1 + 1, 1, none⟩ (.slice A1 n1 c1)).heap[w.heap.size + 1 + 1]? = some (.cells #[.int .i64 v0, .slice A1 n1 c1, .slice none 0 0] 66 (0, 0)) := heap_setCell_same _ _ _ _ _ _ k2
  replace hb : Below w.heap.size w (w1.setCell ⟨w.heap.size + 1 + 1, 1, none⟩ (.slice A1 n1 c1)) := hb.setCell (by show w.heap.size ≤ w.heap.size + 1 + 1; omega) _
  replace hz : w.heap.size + 1 + 1 < (w1.setCell ⟨w.heap.size + 1 + 1, 1, none⟩ (.slice A1 n1 c1)).heap.size := by rw [World.size_setCell]; exact hz
  replace g1 := g1.only ((Only.refl (w.heap.size + 1 + 1) (w.heap.size + 1 + 1 + 1) w1).setCell (p := ⟨w.heap.size + 1 + 1, 1, none⟩) (Nat.le_refl _) (Nat.lt_succ_self _) (.slice A1 n1 c1)) (.inr (by omega))
  refine (q2.out _ hb).mono ?_
  rintro e w2 ⟨u2, rfl, g2, hb1⟩
  clear a0 b0 f0 r0 s0 a1 b1 f1 r1 s1 a2 b2 f2 r2 s2
  replace k0 := (hb1.block _ (by omega)).trans k0
  replace k1 := (hb1.block _ (by omega)).trans k1
  replace k2 := (hb1.block _ (by omega)).trans k2
  have hz1 := hb1.size
  try simp only [World.size_setCell] at hz1
  replace g1 := (g1.below hb1 (.inr (Nat.le_refl _))).more (lo' := w.heap.size + 1 + 1 + 1) (hi' := w2.heap.size) (Nat.le_refl _) hz1
  replace g2 := g2.more (lo' := w.heap.size + 1 + 1 + 1) (hi' := w2.heap.size) hz (Nat.le_refl _)
  obtain ⟨A2, n2, c2, rfl⟩ := g2.shape
  replace hb := hb.trans (hb1.mono hb.size)
  replace hz := Nat.lt_of_lt_of_le hz hb1.size
  clear hz1 hb1
  have a0 : w2.cell? ⟨w.heap.size, 0, none⟩ = some (.int .i64 v0) := (cell_of_row _ _ 0 _ _ (0, 0) k0).trans rfl
  have b0 : w2.cell? ⟨w.heap.size + 1 + 1, 0, none⟩ = some (.int .i64 v0) := (cell_of_row _ _ 0 _ _ (0, 0) k2).trans rfl
  have f0 := frozen_of_row _ _ 0 _ _ k2
  have r0 : w2.cell? ⟨w.heap.size + 1, 0, none⟩ = some (.int .i64 0) := (cell_of_row _ _ 0 _ _ (0, 0) k1).trans rfl
  have s0 := frozen_of_row _ _ 0 _ _ k1
  have a1 : w2.cell? ⟨w.heap.size, 1, none⟩ = some (v1) := (cell_of_row _ _ 1 _ _ (0, 0) k0).trans rfl
  have b1 : w2.cell? ⟨w.heap.size + 1 + 1, 1, none⟩ = some (.slice A1 n1 c1) := (cell_of_row _ _ 1 _ _ (0, 0) k2).trans rfl
  have f1 := frozen_of_row _ _ 1 _ _ k2
  have r1 : w2.cell? ⟨w.heap.size + 1, 1, none⟩ = some (.slice none 0 0) := (cell_of_row _ _ 1 _ _ (0, 0) k1).trans rfl
  have s1 := frozen_of_row _ _ 1 _ _ k1
  have a2 : w2.cell? ⟨w.heap.size, 2, none⟩ = some (v2) := (cell_of_row _ _ 2 _ _ (0, 0) k0).trans rfl
  have b2 : w2.cell? ⟨w.heap.size + 1 + 1, 2, none⟩ = some (.slice none 0 0) := (cell_of_row _ _ 2 _ _ (0, 0) k2).trans rfl
  have f2 := frozen_of_row _ _ 2 _ _ k2
  have r2 : w2.cell? ⟨w.heap.size + 1, 2, none⟩ = some (.slice none 0 0) := (cell_of_row _ _ 2 _ _ (0, 0) k1).trans rfl
  have s2 := frozen_of_row _ _ 2 _ _ k1
  go_wp2_with fail
  replace k0 : (w2.setCell ⟨w.heap.size + 1 + 1, 2, none⟩ (.slice A2 n2 c2)).heap[w.heap.size]? = _ := (Below.heap_setCell _ _ _ _ (by show w.heap.size ≠ w.heap.size + 1 + 1; omega)).trans k0
  replace k1 : (w2.setCell ⟨w.heap.size + 1 + 1, 2, none⟩ (.slice A2 n2 c2)).heap[w.heap.size + 1]? = _ := (Below.heap_setCell _ _ _ _ (by show w.heap.size + 1 ≠ w.heap.size + 1 + 1; omega)).trans k1
  replace k2 : (w2.setCell ⟨w.heap.size + 1 + 1, 2, none⟩ (.slice A2 n2 c2)).heap[w.heap.size + 1 + 1]? = some (.cells #[.int .i64 v0, .slice A1 n1 c1, .slice A2 n2 c2] 66 (0, 0)) := heap_setCell_same _ _ _ _ _ _ k2
  replace hb : Below w.heap.size w (w2.setCell ⟨w.heap.size + 1 + 1, 2, none⟩ (.slice A2 n2 c2)) := hb.setCell (by show w.heap.size ≤ w.heap.size + 1 + 1; omega) _
  replace hz : w.heap.size + 1 + 1 < (w2.setCell ⟨w.heap.size + 1 + 1, 2, none⟩ (.slice A2 n2 c2)).heap.size := by rw [World.size_setCell]; exact hz
  replace g1 := g1.only ((Only.refl (w.heap.size + 1 + 1) (w.heap.size + 1 + 1 + 1) w2).setCell (p := ⟨w.heap.size + 1 + 1, 2, none⟩) (Nat.le_refl _) (Nat.lt_succ_self _) (.slice A2 n2 c2)) (.inr (by omega))
  replace g2 := g2.only ((Only.refl (w.heap.size + 1 + 1) (w.heap.size + 1 + 1 + 1) w2).setCell (p := ⟨w.heap.size + 1 + 1, 2, none⟩) (Nat.le_refl _) (Nat.lt_succ_self _) (.slice A2 n2 c2)) (.inr (by omega))
  have hbF : Below w.heap.size w ((((w2.setCell ⟨w.heap.size + 1 + 1, 2, none⟩ (.slice A2 n2 c2)).setCell ⟨w.heap.size + 1, 0, none⟩ (.int .i64 v0)).setCell ⟨w.heap.size + 1, 1, none⟩ (.slice A1 n1 c1)).setCell ⟨w.heap.size + 1, 2, none⟩ (.slice A2 n2 c2)) := (((hb.setCell (by show w.heap.size ≤ w.heap.size + 1; omega) _).setCell (by show w.heap.size ≤ w.heap.size + 1; omega) _).setCell (by show w.heap.size ≤ w.heap.size + 1; omega) _)
  have hoF : Only (w.heap.size + 1) (w.heap.size + 1 + 1) (w2.setCell ⟨w.heap.size + 1 + 1, 2, none⟩ (.slice A2 n2 c2)) ((((w2.setCell ⟨w.heap.size + 1 + 1, 2, none⟩ (.slice A2 n2 c2)).setCell ⟨w.heap.size + 1, 0, none⟩ (.int .i64 v0)).setCell ⟨w.heap.size + 1, 1, none⟩ (.slice A1 n1 c1)).setCell ⟨w.heap.size + 1, 2, none⟩ (.slice A2 n2 c2)) := ((((Only.refl (w.heap.size + 1) (w.heap.size + 1 + 1) (w2.setCell ⟨w.heap.size + 1 + 1, 2, none⟩ (.slice A2 n2 c2))).setCell (p := ⟨w.heap.size + 1, 0, none⟩) (Nat.le_refl _) (Nat.lt_succ_self _) (.int .i64 v0)).setCell (p := ⟨w.heap.size + 1, 1, none⟩) (Nat.le_refl _) (Nat.lt_succ_self _) (.slice A1 n1 c1)).setCell (p := ⟨w.heap.size + 1, 2, none⟩) (Nat.le_refl _) (Nat.lt_succ_self _) (.slice A2 n2 c2))
  replace g1 := (g1.only hoF (.inr (by omega))).more (lo' := w.heap.size) (hi' := ((((w2.setCell ⟨w.heap.size + 1 + 1, 2, none⟩ (.slice A2 n2 c2)).setCell ⟨w.heap.size + 1, 0, none⟩ (.int .i64 v0)).setCell ⟨w.heap.size + 1, 1, none⟩ (.slice A1 n1 c1)).setCell ⟨w.heap.size + 1, 2, none⟩ (.slice A2 n2 c2)).heap.size) (by omega) (by simp only [World.size_setCell]; exact Nat.le_refl _)
  replace g2 := (g2.only hoF (.inr (by omega))).more (lo' := w.heap.size) (hi' := ((((w2.setCell ⟨w.heap.size + 1 + 1, 2, none⟩ (.slice A2 n2 c2)).setCell ⟨w.heap.size + 1, 0, none⟩ (.int .i64 v0)).setCell ⟨w.heap.size + 1, 1, none⟩ (.slice A1 n1 c1)).setCell ⟨w.heap.size + 1, 2, none⟩ (.slice A2 n2 c2)).heap.size) (by omega) (by simp only [World.size_setCell]; exact Nat.le_refl _)
  have kF : ((((w2.setCell ⟨w.heap.size + 1 + 1, 2, none⟩ (.slice A2 n2 c2)).setCell ⟨w.heap.size + 1, 0, none⟩ (.int .i64 v0)).setCell ⟨w.heap.size + 1, 1, none⟩ (.slice A1 n1 c1)).setCell ⟨w.heap.size + 1, 2, none⟩ (.slice A2 n2 c2)).heap[w.heap.size + 1]? = some (.cells #[.int .i64 v0, .slice A1 n1 c1, .slice A2 n2 c2] 66 (0, 0)) := (heap_setCell_same _ _ _ _ _ _ (heap_setCell_same _ _ _ _ _ _ (heap_setCell_same _ _ _ _ _ _ k1)))
  clear a0 b0 f0 r0 s0 a1 b1 f1 r1 s1 a2 b2 f2 r2 s2
  have rF0 : ((((w2.setCell ⟨w.heap.size + 1 + 1, 2, none⟩ (.slice A2 n2 c2)).setCell ⟨w.heap.size + 1, 0, none⟩ (.int .i64 v0)).setCell ⟨w.heap.size + 1, 1, none⟩ (.slice A1 n1 c1)).setCell ⟨w.heap.size + 1, 2, none⟩ (.slice A2 n2 c2)).cell? ⟨w.heap.size + 1, 0, none⟩ = some (.int .i64 v0) := (cell_of_row _ _ 0 _ _ (0, 0) kF).trans rfl
  have rF1 : ((((w2.setCell ⟨w.heap.size + 1 + 1, 2, none⟩ (.slice A2 n2 c2)).setCell ⟨w.heap.size + 1, 0, none⟩ (.int .i64 v0)).setCell ⟨w.heap.size + 1, 1, none⟩ (.slice A1 n1 c1)).setCell ⟨w.heap.size + 1, 2, none⟩ (.slice A2 n2 c2)).cell? ⟨w.heap.size + 1, 1, none⟩ = some (.slice A1 n1 c1) := (cell_of_row _ _ 1 _ _ (0, 0) kF).trans rfl
  have rF2 : ((((w2.setCell ⟨w.heap.size + 1 + 1, 2, none⟩ (.slice A2 n2 c2)).setCell ⟨w.heap.size + 1, 0, none⟩ (.int .i64 v0)).setCell ⟨w.heap.size + 1, 1, none⟩ (.slice A1 n1 c1)).setCell ⟨w.heap.size + 1, 2, none⟩ (.slice A2 n2 c2)).cell? ⟨w.heap.size + 1, 2, none⟩ = some (.slice A2 n2 c2) := (cell_of_row _ _ 2 _ _ (0, 0) kF).trans rfl
  clear hoF hb hz k0 k1 k2 kF q1 q2
  generalize ((((w2.setCell ⟨w.heap.size + 1 + 1, 2, none⟩ (.slice A2 n2 c2)).setCell ⟨w.heap.size + 1, 0, none⟩ (.int .i64 v0)).setCell ⟨w.heap.size + 1, 1, none⟩ (.slice A1 n1 c1)).setCell ⟨w.heap.size + 1, 2, none⟩ (.slice A2 n2 c2)) = WF at *
  refine bodyPost_ret (by simp [results, Try.results46, go_sem, rF0, rF1, rF2]; try rfl) rfl ?_
  exact ⟨(v0, .slice A1 n1 c1, .slice A2 n2 c2), rfl, ⟨rfl, g1, g2⟩, hbF⟩

set_option maxHeartbeats 1600000 in
set_option maxRecDepth 100000 in
theorem eqLinear_a {x y : CLi} {d e : DLi} {w : World} {lo hi lo' hi' : Nat} (h : ReadLi w lo hi x d) (g : ReadLi w lo' hi' y e) (hs : totLi d ≤ 1048576) (gs : totLi e ≤ 1048576) :
    Calls Try.prog 48 #[.agg #[.int .i64 x.1, x.2.1, x.2.2], .agg #[.int .i64 y.1, y.2.1, y.2.2]] w fun r w' => r = .returned (.bool (decide (d = e))) ∧ Below w.heap.size w w' := by
  obtain ⟨x0, x1, x2⟩ := x
  obtain ⟨y0, y1, y2⟩ := y
  obtain ⟨d0, d1, d2⟩ := d
  obtain ⟨e0, e1, e2⟩ := e
  obtain ⟨h0, h1, h2⟩ := h
  obtain ⟨g0, g1, g2⟩ := g
  dsimp only at *
  subst h0 g0
  rw [totLi_eq] at hs gs
  have k0 : ((w.alloc (.cells #[.int .i64 x0, x1, x2] 66)).alloc (.cells #[.int .i64 y0, y1, y2] 66)).heap[w.heap.size]? = some (.cells #[.int .i64 x0, x1, x2] 66 (0, 0)) := (Below.heap_alloc _ _ _ (by simp only [World.size_alloc]; omega)).trans (heap_alloc_new w _)
  have k1 : ((w.alloc (.cells #[.int .i64 x0, x1, x2] 66)).alloc (.cells #[.int .i64 y0, y1, y2] 66)).heap[w.heap.size + 1]? = some (.cells #[.int .i64 y0, y1, y2] 66 (0, 0)) := by have h := heap_alloc_new (w.alloc (.cells #[.int .i64 x0, x1, x2] 66)) (.cells #[.int .i64 y0, y1, y2] 66); rw [World.size_alloc] at h; exact h
  have hb : Below w.heap.size w ((w.alloc (.cells #[.int .i64 x0, x1, x2] 66)).alloc (.cells #[.int .i64 y0, y1, y2] 66)) := ((Below.refl _ _).alloc (Nat.le_refl _) _).alloc (by simp only [World.size_alloc]; omega) _
  have hz : w.heap.size + 1 < ((w.alloc (.cells #[.int .i64 x0, x1, x2] 66)).alloc (.cells #[.int .i64 y0, y1, y2] 66)).heap.size := by simp only [World.size_alloc]; omega
  have q1 := hide (fun W (hW : Below w.heap.size w W) => eqInt64S_a (h1.below hW (.inr (Nat.le_refl _))) (g1.below hW (.inr (Nat.le_refl _))) (by omega) (by omega))
  have q2 := hide (fun W (hW : Below w.heap.size w W) => eqSummandS_a (h2.below hW (.inr (Nat.le_refl _))) (g2.below hW (.inr (Nat.le_refl _))) (by omega) (by omega))
  clear h1 g1 h2 g2
  by_cases he : (x0, d1, d2) = (y0, e1, e2)
  · have hE := hide he
    simp only [Prod.mk.injEq] at he
    obtain ⟨z0, z1, z2⟩ := he
    subst z0
    skip
    go_enter Try.func48, Try.ntmps48
    go_wp2_with fail
    try generalize ((w.alloc (.cells #[.int .i64 x0, x1, x2] 66)).alloc (.cells #[.int .i64 x0, y1, y2] 66)) = W at *
    have qq := q1.out _ hb
    rw [decide_eq_true z1] at qq
    replace qq := hide qq
    refine qq.out.mono ?_
    rintro r w1 ⟨rfl, hb1⟩
    clear qq
    replace k0 := (hb1.block _ (by omega)).trans k0
    replace k1 := (hb1.block _ (by omega)).trans k1
    replace hb := hb.trans (hb1.mono hb.size)
    replace hz := Nat.lt_of_lt_of_le hz hb1.size
    clear hb1
    have a0 : w1.cell? ⟨w.heap.size, 0, none⟩ = some (.int .i64 x0) := (cell_of_row _ _ 0 _ _ (0, 0) k0).trans rfl
    have b0 : w1.cell? ⟨w.heap.size + 1, 0, none⟩ = some (.int .i64 x0) := (cell_of_row _ _ 0 _ _ (0, 0) k1).trans rfl
    have a1 : w1.cell? ⟨w.heap.size, 1, none⟩ = some (x1) := (cell_of_row _ _ 1 _ _ (0, 0) k0).trans rfl
    have b1 : w1.cell? ⟨w.heap.size + 1, 1, none⟩ = some (y1) := (cell_of_row _ _ 1 _ _ (0, 0) k1).trans rfl
    have a2 : w1.cell? ⟨w.heap.size, 2, none⟩ = some (x2) := (cell_of_row _ _ 2 _ _ (0, 0) k0).trans rfl
    have b2 : w1.cell? ⟨w.heap.size + 1, 2, none⟩ = some (y2) := (cell_of_row _ _ 2 _ _ (0, 0) k1).trans rfl
    go_wp2_with fail
    have qq := q2.out _ hb
    rw [decide_eq_true z2] at qq
    replace qq := hide qq
    refine qq.out.mono ?_
    rintro r w2 ⟨rfl, hb1⟩
    clear a0 b0 a1 b1 a2 b2
    clear qq
    replace k0 := (hb1.block _ (by omega)).trans k0
    replace k1 := (hb1.block _ (by omega)).trans k1
    replace hb := hb.trans (hb1.mono hb.size)
    replace hz := Nat.lt_of_lt_of_le hz hb1.size
    clear hb1
    have a0 : w2.cell? ⟨w.heap.size, 0, none⟩ = some (.int .i64 x0) := (cell_of_row _ _ 0 _ _ (0, 0) k0).trans rfl
    have b0 : w2.cell? ⟨w.heap.size + 1, 0, none⟩ = some (.int .i64 x0) := (cell_of_row _ _ 0 _ _ (0, 0) k1).trans rfl
    have a1 : w2.cell? ⟨w.heap.size, 1, none⟩ = some (x1) := (cell_of_row _ _ 1 _ _ (0, 0) k0).trans rfl
    have b1 : w2.cell? ⟨w.heap.size + 1, 1, none⟩ = some (y1) := (cell_of_row _ _ 1 _ _ (0, 0) k1).trans rfl
    have a2 : w2.cell? ⟨w.heap.size, 2, none⟩ = some (x2) := (cell_of_row _ _ 2 _ _ (0, 0) k0).trans rfl
    have b2 : w2.cell? ⟨w.heap.size + 1, 2, none⟩ = some (y2) := (cell_of_row _ _ 2 _ _ (0, 0) k1).trans rfl
    go_wp2_with fail
    go_ret
    exact ⟨by rw [decide_eq_true hE.out]; rfl, hb⟩
  · have hN : Hid (¬ ((x0, d1, d2) = (y0, e1, e2))) := he
    by_cases c0 : x0 = y0
    · subst c0
      have z0 : x0 = x0 := rfl
      replace z0 := hide z0
      by_cases c1 : d1 = e1
      · have z1 := hide c1
        clear c1
        by_cases c2 : d2 = e2
        · have z2 := hide c2
          clear c2
          exact absurd (Prod.ext z0.out (Prod.ext z1.out (z2.out))) hN.out
        · replace c2 := hide c2
          skip
          go_enter Try.func48, Try.ntmps48
          go_wp2_with fail
          try generalize ((w.alloc (.cells #[.int .i64 x0, x1, x2] 66)).alloc (.cells #[.int .i64 x0, y1, y2] 66)) = W at *
          have qq := q1.out _ hb
          rw [decide_eq_true z1.out] at qq
          replace qq := hide qq
          refine qq.out.mono ?_
          rintro r w1 ⟨rfl, hb1⟩
          clear qq
          replace k0 := (hb1.block _ (by omega)).trans k0
          replace k1 := (hb1.block _ (by omega)).trans k1
          replace hb := hb.trans (hb1.mono hb.size)
          replace hz := Nat.lt_of_lt_of_le hz hb1.size
          clear hb1
          have a0 : w1.cell? ⟨w.heap.size, 0, none⟩ = some (.int .i64 x0) := (cell_of_row _ _ 0 _ _ (0, 0) k0).trans rfl
          have b0 : w1.cell? ⟨w.heap.size + 1, 0, none⟩ = some (.int .i64 x0) := (cell_of_row _ _ 0 _ _ (0, 0) k1).trans rfl
          have a1 : w1.cell? ⟨w.heap.size, 1, none⟩ = some (x1) := (cell_of_row _ _ 1 _ _ (0, 0) k0).trans rfl
          have b1 : w1.cell? ⟨w.heap.size + 1, 1, none⟩ = some (y1) := (cell_of_row _ _ 1 _ _ (0, 0) k1).trans rfl
          have a2 : w1.cell? ⟨w.heap.size, 2, none⟩ = some (x2) := (cell_of_row _ _ 2 _ _ (0, 0) k0).trans rfl
          have b2 : w1.cell? ⟨w.heap.size + 1, 2, none⟩ = some (y2) := (cell_of_row _ _ 2 _ _ (0, 0) k1).trans rfl
          go_wp2_with fail
          have qq := q2.out _ hb
          rw [decide_eq_false c2.out] at qq
          replace qq := hide qq
          refine qq.out.mono ?_
          rintro r w2 ⟨rfl, hb1⟩
          clear a0 b0 a1 b1 a2 b2
          clear qq
          replace k0 := (hb1.block _ (by omega)).trans k0
          replace k1 := (hb1.block _ (by omega)).trans k1
          replace hb := hb.trans (hb1.mono hb.size)
          replace hz := Nat.lt_of_lt_of_le hz hb1.size
          clear hb1
          have a0 : w2.cell? ⟨w.heap.size, 0, none⟩ = some (.int .i64 x0) := (cell_of_row _ _ 0 _ _ (0, 0) k0).trans rfl
          have b0 : w2.cell? ⟨w.heap.size + 1, 0, none⟩ = some (.int .i64 x0) := (cell_of_row _ _ 0 _ _ (0, 0) k1).trans rfl
          have a1 : w2.cell? ⟨w.heap.size, 1, none⟩ = some (x1) := (cell_of_row _ _ 1 _ _ (0, 0) k0).trans rfl
          have b1 : w2.cell? ⟨w.heap.size + 1, 1, none⟩ = some (y1) := (cell_of_row _ _ 1 _ _ (0, 0) k1).trans rfl
          have a2 : w2.cell? ⟨w.heap.size, 2, none⟩ = some (x2) := (cell_of_row _ _ 2 _ _ (0, 0) k0).trans rfl
          have b2 : w2.cell? ⟨w.heap.size + 1, 2, none⟩ = some (y2) := (cell_of_row _ _ 2 _ _ (0, 0) k1).trans rfl
          go_wp2_with fail
          go_ret
          exact ⟨by rw [decide_eq_false hN.out]; rfl, hb⟩
      · replace c1 := hide c1
        clear q2
        go_enter Try.func48, Try.ntmps48
        go_wp2_with fail
        try generalize ((w.alloc (.cells #[.int .i64 x0, x1, x2] 66)).alloc (.cells #[.int .i64 x0, y1, y2] 66)) = W at *
        have qq := q1.out _ hb
        rw [decide_eq_false c1.out] at qq
        replace qq := hide qq
        refine qq.out.mono ?_
        rintro r w1 ⟨rfl, hb1⟩
        clear qq
        replace k0 := (hb1.block _ (by omega)).trans k0
        replace k1 := (hb1.block _ (by omega)).trans k1
        replace hb := hb.trans (hb1.mono hb.size)
        replace hz := Nat.lt_of_lt_of_le hz hb1.size
        clear hb1
        have a0 : w1.cell? ⟨w.heap.size, 0, none⟩ = some (.int .i64 x0) := (cell_of_row _ _ 0 _ _ (0, 0) k0).trans rfl
        have b0 : w1.cell? ⟨w.heap.size + 1, 0, none⟩ = some (.int .i64 x0) := (cell_of_row _ _ 0 _ _ (0, 0) k1).trans rfl
        have a1 : w1.cell? ⟨w.heap.size, 1, none⟩ = some (x1) := (cell_of_row _ _ 1 _ _ (0, 0) k0).trans rfl
        have b1 : w1.cell? ⟨w.heap.size + 1, 1, none⟩ = some (y1) := (cell_of_row _ _ 1 _ _ (0, 0) k1).trans rfl
        have a2 : w1.cell? ⟨w.heap.size, 2, none⟩ = some (x2) := (cell_of_row _ _ 2 _ _ (0, 0) k0).trans rfl
        have b2 : w1.cell? ⟨w.heap.size + 1, 2, none⟩ = some (y2) := (cell_of_row _ _ 2 _ _ (0, 0) k1).trans rfl
        go_wp2_with fail
        go_ret
        exact ⟨by rw [decide_eq_false hN.out]; rfl, hb⟩
    · have cc : (x0 != y0) = true := by rw [bne_iff_ne]; exact c0
      clear q1 q2
      go_enter Try.func48, Try.ntmps48
      go_wp2_with fail
      try generalize ((w.alloc (.cells #[.int .i64 x0, x1, x2] 66)).alloc (.cells #[.int .i64 y0, y1, y2] 66)) = W at *
      go_ret
      exact ⟨by rw [decide_eq_false hN.out]; rfl, hb⟩


end Go.Proofs.Ytdjhpdmpibokhaa
