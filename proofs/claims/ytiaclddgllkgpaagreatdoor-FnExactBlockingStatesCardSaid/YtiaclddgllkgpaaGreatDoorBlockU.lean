/-
  BlockingStates, by the reference and by the program. Conditions: sizes.
-/
import Derived.Test.YtiaclddgllkgpaaGreatDoorReachI
namespace Go.Proofs.YtiaclddgllkgpaaGreatDoor
open Go.ChangeShapes Go.WideShapes Go.ChangeAt Go.RowKit Go.Sort
set_option linter.unusedVariables false
set_option linter.unusedSimpArgs false

noncomputable def blockF (d : DP) : List Int × Int := if plantV d = true then ((reachF d.1.1.toNat d.1.2.2.2 d.1.2.1).filter (fun k => decide (atI (distF false d.1.1.toNat d.1.2.2.2 d.2.1) k < 0)), 0) else ([], 1)
theorem reachF_in {N : Nat} {es : List Ed} {ini : Int} : ∀ v ∈ reachF N es ini, 0 ≤ v ∧ v < (N : Int) := fun v hv => by
  unfold reachF at hv
  obtain ⟨k, hk, rfl⟩ := List.mem_map.1 hv
  have := List.mem_range.1 (List.mem_filter.1 hk).1
  exact ⟨Int.natCast_nonneg _, by show (k : Int) < _; omega⟩

set_option maxRecDepth 100000 in
set_option maxHeartbeats 1600000 in
theorem specBlockingStates_u {v : Value} {d : DP} {w : World} {lo hi : Nat} (he : Env w) (h : FreshP w lo hi v d) (hh : hi ≤ w.heap.size) :
    Calls Tryz.prog 30 #[v] w fun e w' => ∃ u, e = .returned (.tuple #[u, .int .i64 (blockF d).2]) ∧ ResI w' w.heap.size w'.heap.size u (blockF d).1 ∧ Below w.heap.size w w' := by
  obtain ⟨⟨s0, s1, v2, v3⟩, A4, n4, k4, A5, n5, k5, rfl, hp⟩ := h.open_
  obtain ⟨⟨st, ini, ls, es⟩, vs, ns⟩ := d
  obtain ⟨hL, t4, t5, h4, h5, hs, ht⟩ := hp
  have e0 := hL.1
  have e1 := hL.2.1
  dsimp only at *
  subst e0 e1
  have hb0 : Below w.heap.size w (w.alloc (.cells #[.int .i64 s0, .int .i64 s1, v2, v3, .slice A4 n4 k4, .slice A5 n5 k5] 44)) := (Below.refl _ _).alloc (Nat.le_refl _) _
  have k0 := heap_alloc_new w (.cells #[.int .i64 s0, .int .i64 s1, v2, v3, .slice A4 n4 k4, .slice A5 n5 k5] 44)
  have hz : w.heap.size < (w.alloc (.cells #[.int .i64 s0, .int .i64 s1, v2, v3, .slice A4 n4 k4, .slice A5 n5 k5] 44)).heap.size := by rw [World.size_alloc]; omega
  have hat : LtsAt (w.alloc (.cells #[.int .i64 s0, .int .i64 s1, v2, v3, .slice A4 n4 k4, .slice A5 n5 k5] 44)) w.heap.size (s0, s1, v2, v3) (s0, s1, ls, es) :=
    ⟨(hL.below hb0 (.inr (Nat.le_refl _))).more (Nat.zero_le _) (by omega), by omega, hz, (cell_of_row _ _ 0 _ _ (0, 0) k0).trans rfl, (cell_of_row _ _ 1 _ _ (0, 0) k0).trans rfl, (cell_of_row _ _ 2 _ _ (0, 0) k0).trans rfl, (cell_of_row _ _ 3 _ _ (0, 0) k0).trans rfl⟩
  have hc4 : (w.alloc (.cells #[.int .i64 s0, .int .i64 s1, v2, v3, .slice A4 n4 k4, .slice A5 n5 k5] 44)).cell? ⟨w.heap.size, 4, none⟩ = some (.slice A4 n4 k4) := (cell_of_row _ _ 4 _ _ (0, 0) k0).trans rfl
  have t4W := (t4.below hb0 (.inr (Nat.le_refl _))).more (Nat.zero_le _) (show hi ≤ (w.alloc (.cells #[.int .i64 s0, .int .i64 s1, v2, v3, .slice A4 n4 k4, .slice A5 n5 k5] 44)).heap.size by omega)
  have q := l29Is_calls w.heap.size (s0, s1, v2, v3) A4 A5 n4 k4 n5 k5 (s0, s1, ls, es) vs ns _ hat hc4 ((cell_of_row _ _ 5 _ _ (0, 0) k0).trans rfl) h4 h5 hs t4W ((t5.below hb0 (.inr (Nat.le_refl _))).more (Nat.zero_le _) (by omega))
  have hz' := Nat.le_of_lt hz
  replace hb0 := hide hb0
  clear k0 hL t4 t5 h
  cases hv : plantV ((s0, s1, ls, es), vs, ns) with
  | false =>
    have hval : Hid (blockF ((s0, s1, ls, es), vs, ns) = ([], 1)) := by show _ = _; unfold blockF; rw [if_neg (by rw [hv]; decide)]
    rw [hv] at q
    replace q := hide q
    clear hat hc4 t4W hv
    go_enter Tryz.func30, Tryz.ntmps30
    go_wp2_with fail
    refine q.out.mono ?_
    rintro e w1 ⟨rfl, hb⟩
    replace hb := hide hb
    go_wp2_with fail
    go_ret2
    exact ⟨_, by rw [hval.out]; rfl, by rw [hval.out]; exact ⟨none, 0, 0, rfl, Nat.zero_le _, Sl.nil_⟩, hb0.out.trans (hb.out.mono hz')⟩
  | true =>
    obtain ⟨h1, h2, h3⟩ := plant_det hv
    have hlts := det_lts h1
    have hin := rises_in h2
    have hst := (lts_bounds hlts).1
    have hval : Hid (blockF ((s0, s1, ls, es), vs, ns) = ((reachF s0.toNat es s1).filter (fun k => decide (atI (distF false s0.toNat es vs) k < 0)), 0)) := by show _ = _; unfold blockF; rw [if_pos hv]
    have qd := fun W (hW : Below (w.alloc (.cells #[.int .i64 s0, .int .i64 s1, v2, v3, .slice A4 n4 k4, .slice A5 n5 k5] 44)).heap.size (w.alloc (.cells #[.int .i64 s0, .int .i64 s1, v2, v3, .slice A4 n4 k4, .slice A5 n5 k5] 44)) W) =>
      l29Distances_calls w.heap.size (s0, s1, v2, v3) A4 n4 k4 (s0, s1, ls, es) vs W (hat.below hW (Nat.le_refl _)) ((hW.cell (p := ⟨w.heap.size, 4, none⟩) hz).trans hc4) ((t4W.below hW (.inr (Nat.le_refl _))).more (Nat.le_refl _) hW.size) h4 hlts (fun v hv => by have := hin v hv; dsimp only at *; omega)
    have qr := fun W (hW : Below (w.alloc (.cells #[.int .i64 s0, .int .i64 s1, v2, v3, .slice A4 n4 k4, .slice A5 n5 k5] 44)).heap.size (w.alloc (.cells #[.int .i64 s0, .int .i64 s1, v2, v3, .slice A4 n4 k4, .slice A5 n5 k5] 44)) W) =>
      l11Reach_calls w.heap.size (s0, s1, v2, v3) (s0, s1, ls, es) W (hat.below hW (Nat.le_refl _)) hlts
    dsimp only at qd qr
    rw [hv] at q
    obtain ⟨N, rfl⟩ : ∃ N : Nat, s0 = (N : Int) := ⟨s0.toNat, by omega⟩
    rw [Int.toNat_natCast] at hval
    simp only [Int.toNat_natCast] at qd qr
    have hE := hide elem_int64
    replace q := hide q
    replace qd := hide qd
    replace qr := hide qr
    clear hat hc4 t4W hv h1 h2 h3 hlts hin
    go_enter Tryz.func30, Tryz.ntmps30
    go_wp2_with fail
    refine q.out.mono ?_
    rintro e w1 ⟨rfl, hb⟩
    have q2 := hide (qd.out _ hb)
    replace hb := hide hb
    clear qd
    go_wp2_with fail
    refine q2.out.mono ?_
    rintro e w2 ⟨Af, nf, cf, rfl, hf, hd, hb2⟩
    have hbB := hb.out.trans (hb2.mono hb.out.size)
    have q3 := hide (qr.out _ hbB)
    have hfl := hf.len
    rw [hd.1] at hfl
    subst hfl
    replace hbB := hide hbB
    clear qr q2 q hb2 hb
    go_wp2_with fail
    refine q3.out.mono ?_
    rintro e w3 ⟨Ar, nr, cr, rfl, hr, hnr, hb3⟩
    have hfW := Sl.below hf hb3 (.inr (Nat.le_refl _))
    have hbC := hide (hbB.out.trans (hb3.mono hbB.out.size))
    have hrl := hide hr.len
    have hO0 := hide (Own.made (f := iv) (size := 1) w3 2 (Nat.le_refl _))
    have hzz : w.heap.size ≤ w2.heap.size := by have := hbB.out.size; omega
    have hz3 : w.heap.size ≤ w3.heap.size := by have := hb3.size; omega
    replace hr := hide hr
    replace hfW := hide hfW
    clear hb3 hf q3 hd
    go_upto_region 7 with fail
    go_loopw [6, 7] (fun v i wr => ∃ (k : Nat) (A : Option Addr) (m c : Nat), k ≤ nr ∧ i = .int .i64 (k : Nat) ∧ v = .slice A m c ∧ m ≤ k ∧ Hid (Own 1 iv wr w3.heap.size 2 A m c (((reachF N es s1).take k).filter (fun k => decide (atI (distF false N es vs) k < 0)))) ∧ Below w3.heap.size w3 wr) (fun _ i _ => nr - (intOf i).toNat)
    case atStart => exact ⟨0, _, 0, 0, Nat.zero_le _, rfl, rfl, Nat.zero_le _, hO0, (Below.refl _ _).alloc (Nat.le_refl _) _⟩
    case round =>
      clear hO0
      obtain ⟨k, A, m, c, hk, rfl, rfl, hm, hown, hb⟩ := hrel
      by_cases hlt : k < nr
      · have hkI : (k : Int) < (nr : Int) := by omega
        obtain ⟨b, off, x, rfl, -, -, -, hx, c0, -⟩ := SlI.get (Sl.below hr.out hb (.inr (Nat.le_refl _))) hlt
        have hxin := reachF_in x (List.mem_of_getElem? hx)
        obtain ⟨xn, rfl⟩ : ∃ xn : Nat, x = (xn : Int) := ⟨x.toNat, by omega⟩
        have hxn : xn < N := by omega
        have hxI : (xn : Int) < (N : Int) := by omega
        obtain ⟨b2, o2, y, rfl, -, -, -, hy, c1, -⟩ := SlI.get (Sl.below hfW.out hb (.inr (Nat.le_refl _))) hxn
        have hst := filter_step (q := fun k => decide (atI (distF false N es vs) k < 0)) hx
        rw [atI_get hy] at hst
        have hza : ∀ o, w3.heap.size ≤ (wr.alloc o).heap.size := fun o => by rw [World.size_alloc]; have := hb.size; omega
        have hzw := hb.size
        by_cases hy0 : y < 0
        · rw [decide_eq_true hy0, if_pos rfl] at hst
          replace hst := hide hst
          replace hb := hide hb
          clear hx hxin hy
          go_wp2_with (first | (at_builtin; (with_reducible refine wpList_app rfl (.tmp 28) (.tmp 33) rfl hE.out flat_iv rfl (hown.out.alloc _) rfl (Sl.lit1' wr 2 (xn : Int) _ rfl 1 _ ?c0) ?c1 (hza _) ?_); rotate_right; intro A5 c5 w5 hown5 hgr5 hb5 _))
          case c0 => rfl
          case c1 => omega
          have hb6 := hide ((hb.out.alloc hzw (.cells #[.int .i64 (xn : Int)] 2)).trans hb5)
          go_roundw
          case rel => exact ⟨k + 1, A5, m + 1, c5, by omega, by go_num, rfl, by omega, by rw [hst.out]; exact hown5, hb6.out⟩
          case measure => simp [intOf]; omega
        · rw [decide_eq_false hy0, if_neg (by decide), List.append_nil] at hst
          replace hst := hide hst
          replace hb := hide hb
          clear hx hxin hy
          go_wp2_with fail
          go_roundw
          case rel => exact ⟨k + 1, A, m, c, by omega, by go_num, rfl, by omega, by rw [hst.out]; exact hown.out, hb.out⟩
          case measure => simp [intOf]; omega
      · have hkn : k = nr := by omega
        subst hkn
        have hres := hown.out.sl flat_iv
        rw [List.take_of_length_le (by rw [hrl.out]; exact Nat.le_refl _)] at hres
        replace hres := hide hres
        have hbw := hide (hb0.out.trans ((hbC.out.trans (hb.mono hbC.out.size)).mono hz'))
        clear hown hb
        go_wp2_with fail
        go_ret2
        exact ⟨_, by rw [hval.out]; rfl, by rw [hval.out]; exact ⟨A, m, c, rfl, by omega, hres.out.more hz3 (Nat.le_refl _)⟩, hbw.out⟩

set_option maxRecDepth 100000 in
set_option maxHeartbeats 1600000 in
theorem implBlockingStates_u {v : Value} {d : DP} {w : World} {lo hi : Nat} (he : Env w) (h : FreshP w lo hi v d) (hh : hi ≤ w.heap.size) :
    Calls Tryz.prog 31 #[v] w fun e w' => ∃ u, e = .returned (.tuple #[u, .int .i64 (blockF d).2]) ∧ ResI w' w.heap.size w'.heap.size u (blockF d).1 ∧ Below w.heap.size w w' := by
  obtain ⟨⟨s0, s1, v2, v3⟩, A4, n4, k4, A5, n5, k5, rfl, hp⟩ := h.open_
  obtain ⟨⟨st, ini, ls, es⟩, vs, ns⟩ := d
  obtain ⟨hL, t4, t5, h4, h5, hs, ht⟩ := hp
  have hb0 : Below w.heap.size w (w.alloc (.cells #[.int .i64 s0, .int .i64 s1, v2, v3, .slice A4 n4 k4, .slice A5 n5 k5] 44)) := (Below.refl _ _).alloc (Nat.le_refl _) _
  have q := plant_calls (s0, s1, v2, v3) A4 A5 n4 k4 n5 k5 (st, ini, ls, es) vs ns _ lo hi (hL.below hb0 (.inr (Nat.le_refl _))) (t4.below hb0 (.inr (Nat.le_refl _))) (t5.below hb0 (.inr (Nat.le_refl _))) h4 h5 hs ht (he.below hb0 (Nat.le_refl _))
  obtain ⟨e0, e1, ⟨A2, n2, k2, e2, hn2, hs2, t2⟩, ⟨A3, n3, k3, e3, hn3, t3⟩⟩ := hL
  dsimp only at *
  subst e0 e1 e2 e3
  have hes : n3 ≤ 1048576 := by rw [← t3.len]; exact Nat.le_trans (totL_edg (s0, s1, ls, es)) ht
  have kE := heap_alloc_new w (.cells #[.int .i64 s0, .int .i64 s1, .slice A2 n2 k2, .slice A3 n3 k3, .slice A4 n4 k4, .slice A5 n5 k5] 44)
  have hz : w.heap.size < (w.alloc (.cells #[.int .i64 s0, .int .i64 s1, .slice A2 n2 k2, .slice A3 n3 k3, .slice A4 n4 k4, .slice A5 n5 k5] 44)).heap.size := by rw [World.size_alloc]; omega
  replace t3 := t3.below hb0 (.inr (Nat.le_refl _))
  replace t4 := t4.below hb0 (.inr (Nat.le_refl _))
  have hz' := Nat.le_of_lt hz
  replace hb0 := hide hb0
  have cells : ∀ W : World, W.heap[w.heap.size]? = some (.cells #[.int .i64 s0, .int .i64 s1, .slice A2 n2 k2, .slice A3 n3 k3, .slice A4 n4 k4, .slice A5 n5 k5] 44 (0, 0)) →
      (W.cell? ⟨w.heap.size, 0, none⟩ = some (.int .i64 s0) ∧ W.cell? ⟨w.heap.size, 1, none⟩ = some (.int .i64 s1) ∧ W.cell? ⟨w.heap.size, 2, none⟩ = some (.slice A2 n2 k2) ∧ W.cell? ⟨w.heap.size, 3, none⟩ = some (.slice A3 n3 k3) ∧ W.cell? ⟨w.heap.size, 4, none⟩ = some (.slice A4 n4 k4) ∧ W.cell? ⟨w.heap.size, 5, none⟩ = some (.slice A5 n5 k5)) := fun W k => ⟨(cell_of_row _ _ 0 _ _ (0, 0) k).trans rfl, (cell_of_row _ _ 1 _ _ (0, 0) k).trans rfl, (cell_of_row _ _ 2 _ _ (0, 0) k).trans rfl, (cell_of_row _ _ 3 _ _ (0, 0) k).trans rfl, (cell_of_row _ _ 4 _ _ (0, 0) k).trans rfl, (cell_of_row _ _ 5 _ _ (0, 0) k).trans rfl⟩
  obtain ⟨c0, c1, c2, c3, c4, c5⟩ := cells _ kE
  replace cells := hide cells
  replace kE := hide kE
  clear h hn2 hs2 t2 hn3 t5 hs ht
  cases hv : plantV ((s0, s1, ls, es), vs, ns) with
  | false =>
    have hval : Hid (blockF ((s0, s1, ls, es), vs, ns) = ([], 1)) := by show _ = _; unfold blockF; rw [if_neg (by rw [hv]; decide)]
    rw [hv] at q
    replace q := hide q
    clear t3 t4 hv
    go_enter Tryz.func31, Tryz.ntmps31
    go_wp2_with fail
    refine q.out.mono ?_
    rintro e w1 ⟨rfl, hb⟩
    replace hb := hide hb
    clear c0 c1 c2 c3 c4 c5
    go_wp2_with fail
    go_ret2
    exact ⟨_, by rw [hval.out]; rfl, by rw [hval.out]; exact ⟨none, 0, 0, rfl, Nat.zero_le _, Sl.nil_⟩, hb0.out.trans (hb.out.mono hz')⟩
  | true =>
    obtain ⟨h1, h2, h3⟩ := plant_det hv
    have hlts := det_lts h1
    have hin := rises_in h2
    have hst := lts_bounds hlts
    dsimp only at hin h2
    have hval : Hid (blockF ((s0, s1, ls, es), vs, ns) = ((reachF s0.toNat es s1).filter (fun k => decide (atI (distF false s0.toNat es vs) k < 0)), 0)) := by show _ = _; unfold blockF; rw [if_pos hv]
    obtain ⟨N, rfl⟩ : ∃ N : Nat, s0 = (N : Int) := ⟨s0.toNat, by omega⟩
    obtain ⟨ini, rfl⟩ : ∃ k : Nat, s1 = (k : Int) := ⟨s1.toNat, by omega⟩
    rw [Int.toNat_natCast] at hval
    have hm := marks_few h2 (by omega)
    rw [t4.len] at hm
    have hN1 : 1 ≤ N := by omega
    have hN2 : N ≤ 40 := by omega
    have hini : ini < N := by omega
    have hed := edges_in hlts
    have qd := fun W (hW : Below (w.alloc (.cells #[.int .i64 (N : Int), .int .i64 (ini : Int), .slice A2 n2 k2, .slice A3 n3 k3, .slice A4 n4 k4, .slice A5 n5 k5] 44)).heap.size (w.alloc (.cells #[.int .i64 (N : Int), .int .i64 (ini : Int), .slice A2 n2 k2, .slice A3 n3 k3, .slice A4 n4 k4, .slice A5 n5 k5] 44)) W) =>
      distancesB_calls N (ini : Int) (.slice A2 n2 k2) A3 n3 k3 A4 n4 k4 es vs W lo hi lo hi (t3.below hW (.inr (Nat.le_refl _))) (t4.below hW (.inr (Nat.le_refl _))) hes (by omega) hN1 hN2 hed (fun v hv => by have := hin v hv; omega)
    have qr := fun W (hW : Below (w.alloc (.cells #[.int .i64 (N : Int), .int .i64 (ini : Int), .slice A2 n2 k2, .slice A3 n3 k3, .slice A4 n4 k4, .slice A5 n5 k5] 44)).heap.size (w.alloc (.cells #[.int .i64 (N : Int), .int .i64 (ini : Int), .slice A2 n2 k2, .slice A3 n3 k3, .slice A4 n4 k4, .slice A5 n5 k5] 44)) W) =>
      reachable_calls N ini (.slice A2 n2 k2) A3 n3 k3 es W lo hi (t3.below hW (.inr (Nat.le_refl _))) hes hN1 hN2 hini ⟨_, _, _, rfl⟩ hed
    rw [hv] at q
    replace q := hide q
    replace qd := hide qd
    replace qr := hide qr
    clear t3 t4 hv h1 h2 h3 hlts hin hed hst
    go_enter Tryz.func31, Tryz.ntmps31
    go_wp2_with fail
    refine q.out.mono ?_
    rintro e w1 ⟨rfl, hb⟩
    have q2 := hide (qd.out _ hb)
    clear c0 c1 c2 c3 c4 c5
    have kF := hide ((hb.block _ hz).trans kE.out)
    have hz1 := Nat.lt_of_lt_of_le hz hb.size
    obtain ⟨c0, c1, c2, c3, c4, c5⟩ := cells.out _ kF.out
    replace hb := hide hb
    clear qd
    go_wp2_with fail
    refine q2.out.mono ?_
    rintro e w2 ⟨Af, cf, rfl, hf, hd, hb2⟩
    have hz2 := Nat.lt_of_lt_of_le hz1 hb2.size
    have hbox : Below w2.heap.size w2 (w2.alloc (.cells #[.slice Af N cf] 26)) := (Below.refl _ _).alloc (Nat.le_refl _) _
    have kB := heap_alloc_new w2 (.cells #[.slice Af N cf] 26)
    have hbB := hb.out.trans ((hb2.trans (hbox.mono hb2.size)).mono hb.out.size)
    have kG := (hbox.block _ hz2).trans ((hb2.block _ hz1).trans kF.out)
    have q3 := hide (qr.out _ hbB)
    have hfB := Sl.below hf hbox (.inr (Nat.le_refl _))
    have hbs : w2.heap.size < (w2.alloc (.cells #[.slice Af N cf] 26)).heap.size := by rw [World.size_alloc]; omega
    have hzz := hb.out.size
    replace hbB := hide hbB
    replace kB := hide kB
    clear c0 c1 c2 c3 c4 c5 qr q2 q hf hbox hb2 hb
    go_upto_region 4 with fail
    generalize (w2.alloc (.cells #[.slice Af N cf] 26)) = WB at *
    generalize w2.heap.size = bb at *
    obtain ⟨c0, c1, c2, c3, c4, c5⟩ := cells.out _ kG
    clear kG
    go_wp2_with fail
    refine q3.out.mono ?_
    rintro e w3 ⟨A, m, c, rfl, hr, hm40, hmc, hb3⟩
    have q4 := hide (deleteFuncI_calls 73 #[.pointer (some ⟨bb, 0, none⟩)] (fun v => decide (0 ≤ atI (distF false N es vs) v)) A m c _ w3 WB.heap.size hr hmc (by omega) hb3.size (fun v W => by kernel_rfl) (fun v W hv hW => by
      obtain ⟨h0, h1⟩ := reachF_in v hv
      have hW2 := hb3.trans hW
      exact block1_calls bb Af N cf _ v W _ _ ((hW2.cell (p := ⟨bb, 0, none⟩) hbs).trans ((cell_of_row _ _ 0 _ _ (0, 0) kB.out).trans rfl)) (Sl.below hfB hW2 (.inl (by omega))) h0 h1))
    replace hb3 := hide hb3
    clear hr hfB kB c0 c1 c2 c3 c4 c5 q3
    go_wp2_with fail
    refine q4.out.mono ?_
    rintro e w4 ⟨m', c', rfl, hmn, -, hres, hb4⟩
    have hbw := hide (hb0.out.trans ((hbB.out.trans ((hb3.out.trans hb4).mono hbB.out.size)).mono hz'))
    have hres2 := hide (hres.more (show w.heap.size ≤ WB.heap.size by have := hbB.out.size; omega) (Nat.le_refl _))
    have hfe : Hid ((reachF N es (ini : Int)).filter (fun x => !(decide (0 ≤ atI (distF false N es vs) x))) = (reachF N es (ini : Int)).filter (fun k => decide (atI (distF false N es vs) k < 0))) := by
      show _ = _
      apply List.filter_congr
      intro x _
      by_cases h0 : atI (distF false N es vs) x < 0
      · rw [decide_eq_true h0, decide_eq_false (by omega)]; rfl
      · rw [decide_eq_false h0, decide_eq_true (by omega)]; rfl
    clear hb4 hres q4
    go_wp2_with fail
    go_ret2
    exact ⟨_, by rw [hval.out]; rfl, by rw [hval.out]; exact ⟨A, m', c', rfl, by omega, by rw [← hfe.out]; exact hres2.out⟩, hbw.out⟩

end Go.Proofs.YtiaclddgllkgpaaGreatDoor
