/-
  The program's test of monitors. Conditions: sizes.
-/
import Derived.Test.YtiaclddgllkgpaaGreatDoorMonI
import Derived.Test.YtiaclddgllkgpaaGreatDoorMonS
namespace Go.Proofs.YtiaclddgllkgpaaGreatDoor
open Go.ChangeShapes Go.WideShapes Go.ChangeAt Go.RowKit Go.Sort
set_option linter.unusedVariables false

def vAt (vs : List Int) (e : Ed) : Bool := vs.getD e.1.toNat 0 != 0
theorem mon_eq {st ini : Int} {ls : List ByteArray} {es : List Ed} {vs : List Int} (hl : ltsV (st, ini, ls, es) = true) (hn : (vs.length : Int) = st) :
    allK (okVd es vs) vs.length = (!(vs.any fun v => !(inB v 0 2)) && !(es.any (vAt vs))) := by
  rw [ltsV_eq, Bool.and_eq_true] at hl
  have hE : ∀ e ∈ es, 0 ≤ e.1 ∧ e.1 < st := fun e he => by
    obtain ⟨j, hj⟩ := List.getElem?_of_mem he
    have h1 := allK_get hl.2 (List.getElem?_eq_some_iff.1 hj).1
    unfold okEd at h1
    rw [hj] at h1
    simp only [Bool.and_eq_true] at h1
    have h2 := inB_true.1 h1.1.1.1
    omega
  rw [Bool.eq_iff_iff]
  constructor
  · intro h
    rw [Bool.and_eq_true]
    constructor
    · rw [Bool.not_eq_true', ← Bool.not_eq_true, List.any_eq_true]
      rintro ⟨v, hv, hb⟩
      obtain ⟨j, hj⟩ := List.getElem?_of_mem hv
      have h1 := allK_get h (List.getElem?_eq_some_iff.1 hj).1
      rw [okVd_at hj, Bool.and_eq_true] at h1
      rw [h1.1] at hb
      cases hb
    · rw [Bool.not_eq_true', ← Bool.not_eq_true, List.any_eq_true]
      rintro ⟨e, he, hb⟩
      obtain ⟨h0, h1⟩ := hE e he
      have hj : e.1.toNat < vs.length := by omega
      have hx : vs[e.1.toNat]? = some (vs[e.1.toNat]) := List.getElem?_eq_getElem hj
      have h2 := allK_get h hj
      rw [okVd_at hx, Bool.and_eq_true, Bool.or_eq_true] at h2
      unfold vAt at hb
      rw [List.getD_eq_getElem?_getD, hx] at hb
      rcases h2.2 with h3 | h3
      · rw [decide_eq_true_eq] at h3
        rw [h3] at hb
        cases hb
      · have h4 := List.isEmpty_iff.1 h3
        have h5 : e ∈ outE es ((e.1.toNat : Nat) : Int) := by
          unfold outE
          rw [List.mem_filter]
          exact ⟨he, by rw [decide_eq_true_eq]; omega⟩
        rw [h4] at h5
        cases h5
  · intro h
    rw [Bool.and_eq_true, Bool.not_eq_true', Bool.not_eq_true'] at h
    refine allK_good fun j hj => ?_
    have hx : vs[j]? = some (vs[j]) := List.getElem?_eq_getElem hj
    rw [okVd_at hx, Bool.and_eq_true, Bool.or_eq_true]
    constructor
    · have h1 := h.1
      rw [← Bool.not_eq_true, List.any_eq_true] at h1
      cases hb : inB vs[j] 0 2 with
      | true => rfl
      | false => exact absurd ⟨vs[j], List.getElem_mem hj, by rw [hb]; rfl⟩ h1
    · by_cases hv : vs[j] = 0
      · exact .inl (decide_eq_true hv)
      · right
        rw [List.isEmpty_iff]
        unfold outE
        rw [List.filter_eq_nil_iff]
        intro e he hc
        rw [decide_eq_true_eq] at hc
        have h2 := h.2
        rw [← Bool.not_eq_true, List.any_eq_true] at h2
        refine h2 ⟨e, he, ?_⟩
        unfold vAt
        rw [List.getD_eq_getElem?_getD, hc, Int.toNat_natCast, hx]
        simpa using hv

set_option maxRecDepth 100000 in
theorem mon1_calls (v : Int) (w : World) : Calls Tryz.prog 61 #[.int .i64 v] w (Says (!(inB v 0 2)) w) := by
  have q := hide (within_calls v 0 2 w)
  go_enter Tryz.func61, Tryz.ntmps61
  go_wp2_with fail
  refine q.out.mono ?_
  rintro e w1 ⟨rfl, rfl⟩
  go_wp2_with fail
  go_ret
  exact ⟨rfl, Below.refl _ _⟩

set_option maxRecDepth 100000 in
theorem mon2_calls (f lb tg : Int) (bm : Nat) (A4 : Option Addr) (n4 k4 : Nat) (vs : List Int) (W : World) (lo hi : Nat) (hc4 : W.cell? ⟨bm, 4, none⟩ = some (.slice A4 n4 k4)) (hbm : bm < W.heap.size) (t4 : SlI W lo hi A4 n4 vs) (hn4 : n4 ≤ 1048576) (hf0 : 0 ≤ f) (hf1 : f < (n4 : Int)) :
    Calls Tryz.prog 64 (#[.agg #[.int .i64 f, .int .i64 lb, .int .i64 tg]] ++ #[.pointer (some ⟨bm, 0, none⟩)]) W (Says (vAt vs (f, lb, tg)) W) := by
  have hb0 : Below W.heap.size W (W.alloc (.cells #[.int .i64 f, .int .i64 lb, .int .i64 tg] 86)) := (Below.refl _ _).alloc (Nat.le_refl _) _
  obtain ⟨k, rfl⟩ : ∃ k : Nat, f = (k : Int) := ⟨f.toNat, by omega⟩
  obtain ⟨b, off, v, rfl, g1, g2, g3, hx, p0, -⟩ := SlI.get t4 (show k < n4 by omega)
  have c4 := (hb0.cell (p := ⟨bm, 4, none⟩) hbm).trans hc4
  have p1 := (hb0.cell (p := ⟨b, off + k, none⟩) g3).trans p0
  have hv : Hid (vAt vs ((k : Int), lb, tg) = (v != 0)) := by
    show _ = _
    unfold vAt
    rw [List.getD_eq_getElem?_getD]
    simp only [Int.toNat_natCast]
    rw [hx]
    rfl
  replace hb0 := hide hb0
  clear t4 hx p0 hc4
  show Calls _ _ #[.agg #[.int .i64 (k : Int), .int .i64 lb, .int .i64 tg], .pointer (some ⟨bm, 0, none⟩)] W _
  by_cases h0 : v = 0
  · subst h0
    go_enter Tryz.func64, Tryz.ntmps64
    go_wp2_with fail
    go_ret
    exact ⟨ret_b (by rw [hv.out]; rfl), hb0.out⟩
  · have hvb : (v != 0) = true := by rw [bne_iff_ne]; exact h0
    have hvb2 : (v == 0) = false := by rw [beq_eq_false_iff_ne]; exact h0
    go_enter Tryz.func64, Tryz.ntmps64
    go_wp2_with fail
    go_ret
    exact ⟨ret_b (by rw [hv.out, hvb]), hb0.out⟩

set_option maxRecDepth 100000 in
set_option maxHeartbeats 1600000 in
theorem mon_calls (x : CL) (A4 : Option Addr) (n4 k4 : Nat) (d : DL) (vs : List Int) (w : World) (lo hi : Nat) (h : ReadL w lo hi x d) (t4 : SlI w lo hi A4 n4 vs) (hn4 : n4 ≤ 1048576) (htot : totL d ≤ 1048576) (he : Env w) :
    Calls Tryz.prog 17 #[.agg #[.int .i64 x.1, .int .i64 x.2.1, x.2.2.1, x.2.2.2, .slice A4 n4 k4]] w fun e w' => e = .returned (.bool (monV (d, vs))) ∧ Below w.heap.size w w' := by
  have hW0b : Below w.heap.size w (w.alloc (.cells #[.int .i64 x.1, .int .i64 x.2.1, x.2.2.1, x.2.2.2, .slice A4 n4 k4] 35)) := (Below.refl _ _).alloc (Nat.le_refl _) _
  have qv := isDet_calls x d _ lo hi (h.below hW0b (.inr (Nat.le_refl _))) htot (he.below hW0b (Nat.le_refl _))
  have tW := t4.below hW0b (.inr (Nat.le_refl _))
  have l4 := t4.len
  have hval : monV (d, vs) = (detV d && (decide ((n4 : Int) = d.1) && allK (okVd d.2.2.2 vs) n4)) := by rw [← l4]; rfl
  obtain ⟨s0, s1, v2, v3⟩ := x
  obtain ⟨st, ini, ls, es⟩ := d
  obtain ⟨e0, e1, ⟨A2, n2, k2, e2, hn2, hs2, t2⟩, ⟨A3, n3, k3, e3, hn3, t3⟩⟩ := h
  dsimp only at *
  subst e0 e1 e2 e3
  have hes : n3 ≤ 1048576 := by rw [← t3.len]; exact Nat.le_trans (totL_edg (s0, s1, ls, es)) htot
  have tE := t3.below hW0b (.inr (Nat.le_refl _))
  have hW0 := hide hW0b
  have kE := heap_alloc_new w (.cells #[.int .i64 s0, .int .i64 s1, .slice A2 n2 k2, .slice A3 n3 k3, .slice A4 n4 k4] 35)
  have hbt : w.heap.size < (w.alloc (.cells #[.int .i64 s0, .int .i64 s1, .slice A2 n2 k2, .slice A3 n3 k3, .slice A4 n4 k4] 35)).heap.size := by rw [World.size_alloc]; omega
  replace l4 := hide l4
  replace tW := hide tW
  replace tE := hide tE
  clear htot hs2 hn2 hn3 he t2 t3 t4 hW0b
  go_enter Tryz.func17, Tryz.ntmps17
  go_upto_region 1 with fail
  have c0 : (w.alloc (.cells #[.int .i64 s0, .int .i64 s1, .slice A2 n2 k2, .slice A3 n3 k3, .slice A4 n4 k4] 35)).cell? ⟨w.heap.size, 0, none⟩ = some (.int .i64 s0) := (cell_of_row _ _ 0 _ _ (0, 0) kE).trans rfl
  have c1 : (w.alloc (.cells #[.int .i64 s0, .int .i64 s1, .slice A2 n2 k2, .slice A3 n3 k3, .slice A4 n4 k4] 35)).cell? ⟨w.heap.size, 1, none⟩ = some (.int .i64 s1) := (cell_of_row _ _ 1 _ _ (0, 0) kE).trans rfl
  have c2 : (w.alloc (.cells #[.int .i64 s0, .int .i64 s1, .slice A2 n2 k2, .slice A3 n3 k3, .slice A4 n4 k4] 35)).cell? ⟨w.heap.size, 2, none⟩ = some (.slice A2 n2 k2) := (cell_of_row _ _ 2 _ _ (0, 0) kE).trans rfl
  have c3 : (w.alloc (.cells #[.int .i64 s0, .int .i64 s1, .slice A2 n2 k2, .slice A3 n3 k3, .slice A4 n4 k4] 35)).cell? ⟨w.heap.size, 3, none⟩ = some (.slice A3 n3 k3) := (cell_of_row _ _ 3 _ _ (0, 0) kE).trans rfl
  have c4 : (w.alloc (.cells #[.int .i64 s0, .int .i64 s1, .slice A2 n2 k2, .slice A3 n3 k3, .slice A4 n4 k4] 35)).cell? ⟨w.heap.size, 4, none⟩ = some (.slice A4 n4 k4) := (cell_of_row _ _ 4 _ _ (0, 0) kE).trans rfl
  clear kE
  generalize hWW : (w.alloc (.cells #[.int .i64 s0, .int .i64 s1, .slice A2 n2 k2, .slice A3 n3 k3, .slice A4 n4 k4] 35)) = W0 at *
  clear hWW
  cases hl : detV (s0, s1, ls, es) with
  | false =>
    rw [hl] at qv hval
    have hv : Hid (monV ((s0, s1, ls, es), vs) = false) := hval
    replace qv := hide qv
    clear hl hval tW tE
    go_wp2_with fail
    refine qv.out.mono ?_
    rintro e w1 ⟨rfl, hb1⟩
    replace hb1 := hide hb1
    go_wp2_with fail
    go_ret
    exact ⟨ret_b (by rw [hv.out]), hW0.out.trans (hb1.out.mono (Nat.le_of_lt hbt))⟩
  | true =>
  rw [hl] at qv hval
  replace qv := hide qv
  have hlv : ltsV (s0, s1, ls, es) = true := by
    unfold detV at hl
    rw [Bool.and_eq_true] at hl
    exact hl.1
  clear hl
  by_cases hst : (n4 : Int) = s0
  case neg =>
    rw [decide_eq_false hst] at hval
    have hv : Hid (monV ((s0, s1, ls, es), vs) = false) := hval
    have hsb : ((n4 : Int) != s0) = true := by rw [bne_iff_ne]; exact hst
    have hsb2 : ((n4 : Int) == s0) = false := by rw [beq_eq_false_iff_ne]; exact hst
    clear hlv hval tW tE hst
    go_wp2_with fail
    refine qv.out.mono ?_
    rintro e w1 ⟨rfl, hb1⟩
    have a0 := (hb1.cell (p := ⟨w.heap.size, 0, none⟩) hbt).trans c0
    have a4 := (hb1.cell (p := ⟨w.heap.size, 4, none⟩) hbt).trans c4
    replace hb1 := hide hb1
    go_wp2_with fail
    go_ret
    exact ⟨ret_b (by rw [hv.out]), hW0.out.trans (hb1.out.mono (Nat.le_of_lt hbt))⟩
  rw [decide_eq_true hst] at hval
  have hmq := mon_eq (vs := vs) hlv (by rw [l4.out]; exact hst)
  rw [l4.out] at hmq
  rw [hmq, Bool.true_and, Bool.true_and] at hval
  have hE : ∀ f lb tg : Int, (f, lb, tg) ∈ es → 0 ≤ f ∧ f < (n4 : Int) := fun f lb tg hm => by
    rw [ltsV_eq, Bool.and_eq_true] at hlv
    obtain ⟨j, hj⟩ := List.getElem?_of_mem hm
    have h1 := allK_get hlv.2 (List.getElem?_eq_some_iff.1 hj).1
    unfold okEd at h1
    rw [hj] at h1
    simp only [Bool.and_eq_true] at h1
    have h2 := inB_true.1 h1.1.1.1
    omega
  subst hst
  clear hlv hmq
  have q1 := fun (W : World) (hW : Below W0.heap.size W0 W) => containsFuncI_calls 61 #[] (fun v => !(inB v 0 2)) A4 n4 k4 vs W lo hi (tW.out.below hW (.inr (Nat.le_refl _))) hn4 (fun v W => by kernel_rfl) (fun v W _ => mon1_calls v W)
  have q2 := fun (W : World) (hW : Below W0.heap.size W0 W) => containsFuncEd_calls 64 #[.pointer (some ⟨w.heap.size, 0, none⟩)] (vAt vs) A3 n3 k3 es W lo hi (tE.out.below hW (.inr (Nat.le_refl _))) hes (fun v W => by kernel_rfl)
    (fun f lb tg W' hm hW' => mon2_calls f lb tg w.heap.size A4 n4 k4 vs W' lo hi (((hW.trans (hW'.mono hW.size)).cell (p := ⟨w.heap.size, 4, none⟩) hbt).trans c4) (Nat.lt_of_lt_of_le hbt (hW.trans (hW'.mono hW.size)).size) (tW.out.below (hW.trans (hW'.mono hW.size)) (.inr (Nat.le_refl _))) hn4 (hE f lb tg hm).1 (hE f lb tg hm).2)
  replace hE := hide hE
  replace tW := hide tW
  replace tE := hide tE
  cases hany : (vs.any fun v => !(inB v 0 2)) with
  | true =>
    rw [hany] at hval
    simp only [hany] at q1
    have hv : Hid (monV (((n4 : Int), s1, ls, es), vs) = false) := hval
    replace q1 := hide q1
    clear q2 hval hany
    go_wp2_with fail
    refine qv.out.mono ?_
    rintro e w1 ⟨rfl, hb1⟩
    have a0 := (hb1.cell (p := ⟨w.heap.size, 0, none⟩) hbt).trans c0
    have a4 := (hb1.cell (p := ⟨w.heap.size, 4, none⟩) hbt).trans c4
    replace hb1 := hide hb1
    go_wp2_with fail
    refine (q1.out _ hb1.out).mono ?_
    rintro e w2 ⟨rfl, hb2⟩
    replace hb2 := hide hb2
    go_wp2_with fail
    go_ret
    exact ⟨ret_b (by rw [hv.out]), hW0.out.trans ((hb1.out.trans (hb2.out.mono hb1.out.size)).mono (Nat.le_of_lt hbt))⟩
  | false =>
    rw [hany] at hval
    simp only [hany] at q1
    have hv : Hid (monV (((n4 : Int), s1, ls, es), vs) = !(es.any (vAt vs))) := hval
    replace q1 := hide q1
    replace q2 := hide q2
    clear hval hany
    generalize (es.any (vAt vs)) = bb at *
    go_wp2_with fail
    refine qv.out.mono ?_
    rintro e w1 ⟨rfl, hb1⟩
    have a0 := (hb1.cell (p := ⟨w.heap.size, 0, none⟩) hbt).trans c0
    have a4 := (hb1.cell (p := ⟨w.heap.size, 4, none⟩) hbt).trans c4
    replace hb1 := hide hb1
    go_wp2_with fail
    refine (q1.out _ hb1.out).mono ?_
    rintro e w2 ⟨rfl, hb2⟩
    have hb12 := hide (hb1.out.trans (hb2.mono hb1.out.size))
    have d3 := (hb12.out.cell (p := ⟨w.heap.size, 3, none⟩) hbt).trans c3
    clear hb2
    go_wp2_with fail
    refine (q2.out _ hb12.out).mono ?_
    rintro e w3 ⟨rfl, hb3⟩
    replace hb3 := hide hb3
    go_wp2_with fail
    go_ret
    exact ⟨ret_b (by rw [hv.out]), hW0.out.trans ((hb12.out.trans (hb3.out.mono hb12.out.size)).mono (Nat.le_of_lt hbt))⟩

end Go.Proofs.YtiaclddgllkgpaaGreatDoor
