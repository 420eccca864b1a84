/-
  MarkDistances, by the reference and by the program. Conditions: sizes.
-/
import Derived.Test.YtiaclddgllkgpaaGreatDoorDistS
import Derived.Test.YtiaclddgllkgpaaGreatDoorDistI
import Derived.Test.YtiaclddgllkgpaaGreatDoorMarkP
import Derived.Test.YtiaclddgllkgpaaGreatDoorBaseD
namespace Go.Proofs.YtiaclddgllkgpaaGreatDoor
open Go.ChangeShapes Go.WideShapes Go.ChangeAt Go.RowKit Go.Sort
set_option linter.unusedVariables false
set_option linter.unusedSimpArgs false

theorem rises_in {hi : Int} {l : List Int} (h : risesB hi l = true) : ∀ v ∈ l, 0 ≤ v ∧ v ≤ hi := fun v hv => by
  obtain ⟨k, hk⟩ := List.getElem?_of_mem hv
  have hlt := (List.getElem?_eq_some_iff.1 hk).1
  have := allK_get h hlt
  cases hb : inB v 0 hi with
  | true => exact inB_true.1 hb
  | false => rw [okR_bad hk hb] at this; cases this
theorem rises_nodup {hi : Int} {l : List Int} (h : risesB hi l = true) : l.Pairwise (· < ·) := by
  have key : ∀ k x y, l[k]? = some x → l[k + 1]? = some y → x < y := fun k x y hx hy => by
    have hlt := (List.getElem?_eq_some_iff.1 hy).1
    have := allK_get h hlt
    rw [okR_at hy (by omega) (by simpa using hx)] at this
    simp only [Bool.and_eq_true, decide_eq_true_eq] at this
    exact this.2
  exact pair_of_next (fun a b : Int => a < b) (fun a b c h1 h2 => by omega) l key
theorem rises_len : ∀ {l : List Int} {hi lo : Int}, l.Pairwise (· < ·) → (∀ v ∈ l, lo ≤ v ∧ v ≤ hi) → (l.length : Int) ≤ (if lo ≤ hi then hi - lo + 1 else 0)
  | [], hi, lo, _, _ => by simp; split <;> omega
  | a :: l, hi, lo, h, hb => by
    obtain ⟨h1, h2⟩ := List.pairwise_cons.1 h
    have ha := hb a (by simp)
    have := rises_len (l := l) (hi := hi) (lo := a + 1) h2 (fun v hv => ⟨by have := h1 v hv; omega, (hb v (List.mem_cons_of_mem _ hv)).2⟩)
    rw [List.length_cons]
    rw [if_pos (by omega)]
    split at this <;> omega
theorem plant_det {d : DP} (h : plantV d = true) : detV d.1 = true ∧ risesB (d.1.1 - 1) d.2.1 = true ∧ actsB d.2.2 = true := by
  unfold plantV at h
  simp only [Bool.and_eq_true] at h
  exact ⟨h.1, h.2.1, h.2.2⟩
theorem det_lts {d : DL} (h : detV d = true) : ltsV d = true := by
  unfold detV at h
  rw [Bool.and_eq_true] at h
  exact h.1
theorem marks_few {st : Int} {l : List Int} (h : risesB (st - 1) l = true) (h1 : st ≤ 40) : l.length ≤ 40 := by
  have := rises_len (rises_nodup h) (rises_in h)
  split at this <;> omega
theorem edges_in {st ini : Int} {ls : List ByteArray} {es : List Ed} (h : ltsV (st, ini, ls, es) = true) : ∀ e ∈ es, (0 ≤ e.1 ∧ e.1 < st) ∧ (0 ≤ e.2.2 ∧ e.2.2 < st) := by
  rintro ⟨f, lb, tg⟩ he
  obtain ⟨k, hk⟩ := List.getElem?_of_mem he
  have := edge_of h hk
  have h1 := this.1
  have h2 := this.2.1
  exact ⟨by dsimp only at *; omega, by dsimp only at *; omega⟩

noncomputable def farF (d : DP) : List Int × Int := if plantV d = true then (distF false d.1.1.toNat d.1.2.2.2 d.2.1, 0) else ([], 1)

set_option maxRecDepth 100000 in
set_option maxHeartbeats 800000 in
theorem specMarkDistances_u {v : Value} {d : DP} {w : World} {lo hi : Nat} (he : Env w) (h : FreshP w lo hi v d) (hh : hi ≤ w.heap.size) :
    Calls Tryz.prog 24 #[v] w fun e w' => ∃ u, e = .returned (.tuple #[u, .int .i64 (farF d).2]) ∧ ResI w' w.heap.size w'.heap.size u (farF d).1 ∧ Below w.heap.size w w' := by
  obtain ⟨⟨s0, s1, v2, v3⟩, A4, n4, k4, A5, n5, k5, rfl, hp⟩ := h.open_
  obtain ⟨⟨st, ini, ls, es⟩, vs, ns⟩ := d
  obtain ⟨hL, t4, t5, h4, h5, hs, ht⟩ := hp
  have e0 := hL.1
  have e1 := hL.2.1
  dsimp only at *
  subst e0 e1
  have hb0 : Below w.heap.size w (w.alloc (.cells #[.int .i64 s0, .int .i64 s1, v2, v3, .slice A4 n4 k4, .slice A5 n5 k5] 44)) := (Below.refl _ _).alloc (Nat.le_refl _) _
  have k0 := heap_alloc_new w (.cells #[.int .i64 s0, .int .i64 s1, v2, v3, .slice A4 n4 k4, .slice A5 n5 k5] 44)
  have hz : w.heap.size < (w.alloc (.cells #[.int .i64 s0, .int .i64 s1, v2, v3, .slice A4 n4 k4, .slice A5 n5 k5] 44)).heap.size := by rw [World.size_alloc]; omega
  have hat : LtsAt (w.alloc (.cells #[.int .i64 s0, .int .i64 s1, v2, v3, .slice A4 n4 k4, .slice A5 n5 k5] 44)) w.heap.size (s0, s1, v2, v3) (s0, s1, ls, es) :=
    ⟨(hL.below hb0 (.inr (Nat.le_refl _))).more (Nat.zero_le _) (by omega), by omega, hz, (cell_of_row _ _ 0 _ _ (0, 0) k0).trans rfl, (cell_of_row _ _ 1 _ _ (0, 0) k0).trans rfl, (cell_of_row _ _ 2 _ _ (0, 0) k0).trans rfl, (cell_of_row _ _ 3 _ _ (0, 0) k0).trans rfl⟩
  have hc4 : (w.alloc (.cells #[.int .i64 s0, .int .i64 s1, v2, v3, .slice A4 n4 k4, .slice A5 n5 k5] 44)).cell? ⟨w.heap.size, 4, none⟩ = some (.slice A4 n4 k4) := (cell_of_row _ _ 4 _ _ (0, 0) k0).trans rfl
  have t4W := (t4.below hb0 (.inr (Nat.le_refl _))).more (Nat.zero_le _) (show hi ≤ (w.alloc (.cells #[.int .i64 s0, .int .i64 s1, v2, v3, .slice A4 n4 k4, .slice A5 n5 k5] 44)).heap.size by omega)
  have q := l29Is_calls w.heap.size (s0, s1, v2, v3) A4 A5 n4 k4 n5 k5 (s0, s1, ls, es) vs ns _ hat hc4 ((cell_of_row _ _ 5 _ _ (0, 0) k0).trans rfl) h4 h5 hs t4W ((t5.below hb0 (.inr (Nat.le_refl _))).more (Nat.zero_le _) (by omega))
  have hz' := Nat.le_of_lt hz
  replace hb0 := hide hb0
  clear k0 hL t4 t5 h
  cases hv : plantV ((s0, s1, ls, es), vs, ns) with
  | false =>
    have hval : Hid (farF ((s0, s1, ls, es), vs, ns) = ([], 1)) := by show _ = _; unfold farF; rw [if_neg (by rw [hv]; decide)]
    rw [hv] at q
    replace q := hide q
    clear hat hc4 t4W hv
    go_enter Tryz.func24, Tryz.ntmps24
    go_wp2_with fail
    refine q.out.mono ?_
    rintro e w1 ⟨rfl, hb⟩
    replace hb := hide hb
    go_wp2_with fail
    go_ret2
    exact ⟨_, by rw [hval.out]; rfl, by rw [hval.out]; exact ⟨none, 0, 0, rfl, Nat.zero_le _, Sl.nil_⟩, hb0.out.trans (hb.out.mono hz')⟩
  | true =>
    obtain ⟨h1, h2, h3⟩ := plant_det hv
    have hlts := det_lts h1
    have hin := rises_in h2
    have hst := (lts_bounds hlts).1
    have hval : Hid (farF ((s0, s1, ls, es), vs, ns) = (distF false s0.toNat es vs, 0)) := by show _ = _; unfold farF; rw [if_pos hv]
    have qd := fun W (hW : Below (w.alloc (.cells #[.int .i64 s0, .int .i64 s1, v2, v3, .slice A4 n4 k4, .slice A5 n5 k5] 44)).heap.size (w.alloc (.cells #[.int .i64 s0, .int .i64 s1, v2, v3, .slice A4 n4 k4, .slice A5 n5 k5] 44)) W) =>
      l29Distances_calls w.heap.size (s0, s1, v2, v3) A4 n4 k4 (s0, s1, ls, es) vs W (hat.below hW (Nat.le_refl _)) ((hW.cell (p := ⟨w.heap.size, 4, none⟩) hz).trans hc4) ((t4W.below hW (.inr (Nat.le_refl _))).more (Nat.le_refl _) hW.size) h4 hlts (fun v hv => by have := hin v hv; dsimp only at *; omega)
    rw [hv] at q
    replace q := hide q
    replace qd := hide qd
    clear hat hc4 t4W hv h1 h2 h3 hlts hin
    go_enter Tryz.func24, Tryz.ntmps24
    go_wp2_with fail
    refine q.out.mono ?_
    rintro e w1 ⟨rfl, hb⟩
    have q2 := hide (qd.out _ hb)
    replace hb := hide hb
    clear qd
    go_wp2_with fail
    refine q2.out.mono ?_
    rintro e w2 ⟨A, n, c, rfl, hsl, hd, hb2⟩
    have hlen := hd.1
    have hl2 := hsl.len
    have hbw := hide (hb0.out.trans ((hb.out.trans (hb2.mono hb.out.size)).mono hz'))
    have hzz := hb.out.size
    replace hsl := hide hsl
    clear hd hb2 q2 q
    go_wp2_with fail
    go_ret2
    exact ⟨_, by rw [hval.out]; rfl, by rw [hval.out]; exact ⟨A, n, c, rfl, by omega, hsl.out.more (by omega) (Nat.le_refl _)⟩, hbw.out⟩

set_option maxRecDepth 100000 in
set_option maxHeartbeats 800000 in
theorem implMarkDistances_u {v : Value} {d : DP} {w : World} {lo hi : Nat} (he : Env w) (h : FreshP w lo hi v d) (hh : hi ≤ w.heap.size) :
    Calls Tryz.prog 25 #[v] w fun e w' => ∃ u, e = .returned (.tuple #[u, .int .i64 (farF d).2]) ∧ ResI w' w.heap.size w'.heap.size u (farF d).1 ∧ Below w.heap.size w w' := by
  obtain ⟨⟨s0, s1, v2, v3⟩, A4, n4, k4, A5, n5, k5, rfl, hp⟩ := h.open_
  obtain ⟨⟨st, ini, ls, es⟩, vs, ns⟩ := d
  obtain ⟨hL, t4, t5, h4, h5, hs, ht⟩ := hp
  have hb0 : Below w.heap.size w (w.alloc (.cells #[.int .i64 s0, .int .i64 s1, v2, v3, .slice A4 n4 k4, .slice A5 n5 k5] 44)) := (Below.refl _ _).alloc (Nat.le_refl _) _
  have q := plant_calls (s0, s1, v2, v3) A4 A5 n4 k4 n5 k5 (st, ini, ls, es) vs ns _ lo hi (hL.below hb0 (.inr (Nat.le_refl _))) (t4.below hb0 (.inr (Nat.le_refl _))) (t5.below hb0 (.inr (Nat.le_refl _))) h4 h5 hs ht (he.below hb0 (Nat.le_refl _))
  obtain ⟨e0, e1, ⟨A2, n2, k2, e2, hn2, hs2, t2⟩, ⟨A3, n3, k3, e3, hn3, t3⟩⟩ := hL
  dsimp only at *
  subst e0 e1 e2 e3
  have hes : n3 ≤ 1048576 := by rw [← t3.len]; exact Nat.le_trans (totL_edg (s0, s1, ls, es)) ht
  have kE := heap_alloc_new w (.cells #[.int .i64 s0, .int .i64 s1, .slice A2 n2 k2, .slice A3 n3 k3, .slice A4 n4 k4, .slice A5 n5 k5] 44)
  have hz : w.heap.size < (w.alloc (.cells #[.int .i64 s0, .int .i64 s1, .slice A2 n2 k2, .slice A3 n3 k3, .slice A4 n4 k4, .slice A5 n5 k5] 44)).heap.size := by rw [World.size_alloc]; omega
  replace t3 := t3.below hb0 (.inr (Nat.le_refl _))
  replace t4 := t4.below hb0 (.inr (Nat.le_refl _))
  have hz' := Nat.le_of_lt hz
  replace hb0 := hide hb0
  have cells : ∀ W : World, W.heap[w.heap.size]? = some (.cells #[.int .i64 s0, .int .i64 s1, .slice A2 n2 k2, .slice A3 n3 k3, .slice A4 n4 k4, .slice A5 n5 k5] 44 (0, 0)) →
      (W.cell? ⟨w.heap.size, 0, none⟩ = some (.int .i64 s0) ∧ W.cell? ⟨w.heap.size, 1, none⟩ = some (.int .i64 s1) ∧ W.cell? ⟨w.heap.size, 2, none⟩ = some (.slice A2 n2 k2) ∧ W.cell? ⟨w.heap.size, 3, none⟩ = some (.slice A3 n3 k3) ∧ W.cell? ⟨w.heap.size, 4, none⟩ = some (.slice A4 n4 k4) ∧ W.cell? ⟨w.heap.size, 5, none⟩ = some (.slice A5 n5 k5)) := fun W k => ⟨(cell_of_row _ _ 0 _ _ (0, 0) k).trans rfl, (cell_of_row _ _ 1 _ _ (0, 0) k).trans rfl, (cell_of_row _ _ 2 _ _ (0, 0) k).trans rfl, (cell_of_row _ _ 3 _ _ (0, 0) k).trans rfl, (cell_of_row _ _ 4 _ _ (0, 0) k).trans rfl, (cell_of_row _ _ 5 _ _ (0, 0) k).trans rfl⟩
  obtain ⟨c0, c1, c2, c3, c4, c5⟩ := cells _ kE
  replace cells := hide cells
  replace kE := hide kE
  clear h hn2 hs2 t2 hn3 t5 hs ht
  cases hv : plantV ((s0, s1, ls, es), vs, ns) with
  | false =>
    have hval : Hid (farF ((s0, s1, ls, es), vs, ns) = ([], 1)) := by show _ = _; unfold farF; rw [if_neg (by rw [hv]; decide)]
    rw [hv] at q
    replace q := hide q
    clear t3 t4 hv
    go_enter Tryz.func25, Tryz.ntmps25
    go_wp2_with fail
    refine q.out.mono ?_
    rintro e w1 ⟨rfl, hb⟩
    replace hb := hide hb
    clear c0 c1 c2 c3 c4 c5
    go_wp2_with fail
    go_ret2
    exact ⟨_, by rw [hval.out]; rfl, by rw [hval.out]; exact ⟨none, 0, 0, rfl, Nat.zero_le _, Sl.nil_⟩, hb0.out.trans (hb.out.mono hz')⟩
  | true =>
    obtain ⟨h1, h2, h3⟩ := plant_det hv
    have hlts := det_lts h1
    have hin := rises_in h2
    have hst := (lts_bounds hlts).1
    dsimp only at hin h2
    have hval : Hid (farF ((s0, s1, ls, es), vs, ns) = (distF false s0.toNat es vs, 0)) := by show _ = _; unfold farF; rw [if_pos hv]
    obtain ⟨N, rfl⟩ : ∃ N : Nat, s0 = (N : Int) := ⟨s0.toNat, by omega⟩
    rw [Int.toNat_natCast] at hval
    have hm := marks_few h2 (by omega)
    rw [t4.len] at hm
    have qd := fun W (hW : Below (w.alloc (.cells #[.int .i64 (N : Int), .int .i64 s1, .slice A2 n2 k2, .slice A3 n3 k3, .slice A4 n4 k4, .slice A5 n5 k5] 44)).heap.size (w.alloc (.cells #[.int .i64 (N : Int), .int .i64 s1, .slice A2 n2 k2, .slice A3 n3 k3, .slice A4 n4 k4, .slice A5 n5 k5] 44)) W) =>
      distancesB_calls N s1 (.slice A2 n2 k2) A3 n3 k3 A4 n4 k4 es vs W lo hi lo hi (t3.below hW (.inr (Nat.le_refl _))) (t4.below hW (.inr (Nat.le_refl _))) hes (by omega) (by omega) (by omega) (edges_in hlts) (fun v hv => by have := hin v hv; omega)
    rw [hv] at q
    replace q := hide q
    replace qd := hide qd
    clear t3 t4 hv h1 h2 h3 hlts hin
    go_enter Tryz.func25, Tryz.ntmps25
    go_wp2_with fail
    refine q.out.mono ?_
    rintro e w1 ⟨rfl, hb⟩
    have q2 := hide (qd.out _ hb)
    clear c0 c1 c2 c3 c4 c5
    obtain ⟨c0, c1, c2, c3, c4, c5⟩ := cells.out _ ((hb.block _ hz).trans kE.out)
    replace hb := hide hb
    clear qd
    go_wp2_with fail
    refine q2.out.mono ?_
    rintro e w2 ⟨A, c, rfl, hsl, hd, hb2⟩
    have hbw := hide (hb0.out.trans ((hb.out.trans (hb2.mono hb.out.size)).mono hz'))
    have hzz := hb.out.size
    replace hsl := hide hsl
    clear hd hb2 q2 q c0 c1 c2 c3 c4 c5
    go_wp2_with fail
    go_ret2
    exact ⟨_, by rw [hval.out]; rfl, by rw [hval.out]; exact ⟨A, N, c, rfl, by omega, hsl.out.more (by omega) (Nat.le_refl _)⟩, hbw.out⟩

end Go.Proofs.YtiaclddgllkgpaaGreatDoor
