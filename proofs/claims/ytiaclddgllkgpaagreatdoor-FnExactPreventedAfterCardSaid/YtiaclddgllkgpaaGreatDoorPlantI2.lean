/-
  The program's test of plants, whole. Conditions: sizes.
-/
import Derived.Test.YtiaclddgllkgpaaGreatDoorPlantI
namespace Go.Proofs.YtiaclddgllkgpaaGreatDoor
open Go.ChangeShapes Go.WideShapes Go.ChangeAt Go.RowKit Go.Sort
set_option linter.unusedVariables false

set_option maxRecDepth 100000 in
set_option maxHeartbeats 1600000 in
theorem statesOk_calls (s0 s1 : Int) (A2 : Option Addr) (n2 k2 : Nat) (A3 : Option Addr) (n3 k3 : Nat) (A : Option Addr) (n c : Nat) (l : List Int) (w : World) (lo hi : Nat) (h : SlI w lo hi A n l) (hn : n ≤ 1048576) (h1 : 1 ≤ s0) (h2 : s0 ≤ 40) :
    Calls Tryz.prog 66 #[.agg #[.int .i64 s0, .int .i64 s1, .slice A2 n2 k2, .slice A3 n3 k3], .slice A n c] w fun e w' => e = .returned (.bool (risesB (s0 - 1) l)) ∧ Below w.heap.size w w' := by
  have hlen := h.len
  have hval : Hid (risesB (s0 - 1) l = allK (okRise (s0 - 1) l) n) := by show _ = _; unfold risesB; rw [hlen]
  have hW0 := hide (show Below w.heap.size w (w.alloc (.cells #[.int .i64 s0, .int .i64 s1, .slice A2 n2 k2, .slice A3 n3 k3] 33)) from (Below.refl _ _).alloc (Nat.le_refl _) _)
  have kE := heap_alloc_new w (.cells #[.int .i64 s0, .int .i64 s1, .slice A2 n2 k2, .slice A3 n3 k3] 33)
  have hbt : w.heap.size < (w.alloc (.cells #[.int .i64 s0, .int .i64 s1, .slice A2 n2 k2, .slice A3 n3 k3] 33)).heap.size := by rw [World.size_alloc]; omega
  replace h := hide h
  clear hlen
  go_enter Tryz.func66, Tryz.ntmps66
  go_upto_region 2 with fail
  have c0 : (w.alloc (.cells #[.int .i64 s0, .int .i64 s1, .slice A2 n2 k2, .slice A3 n3 k3] 33)).cell? ⟨w.heap.size, 0, none⟩ = some (.int .i64 s0) := (cell_of_row _ _ 0 _ _ (0, 0) kE).trans rfl
  have c1 : (w.alloc (.cells #[.int .i64 s0, .int .i64 s1, .slice A2 n2 k2, .slice A3 n3 k3] 33)).cell? ⟨w.heap.size, 1, none⟩ = some (.int .i64 s1) := (cell_of_row _ _ 1 _ _ (0, 0) kE).trans rfl
  have c2 : (w.alloc (.cells #[.int .i64 s0, .int .i64 s1, .slice A2 n2 k2, .slice A3 n3 k3] 33)).cell? ⟨w.heap.size, 2, none⟩ = some (.slice A2 n2 k2) := (cell_of_row _ _ 2 _ _ (0, 0) kE).trans rfl
  have c3 : (w.alloc (.cells #[.int .i64 s0, .int .i64 s1, .slice A2 n2 k2, .slice A3 n3 k3] 33)).cell? ⟨w.heap.size, 3, none⟩ = some (.slice A3 n3 k3) := (cell_of_row _ _ 3 _ _ (0, 0) kE).trans rfl
  clear kE
  generalize hWW : (w.alloc (.cells #[.int .i64 s0, .int .i64 s1, .slice A2 n2 k2, .slice A3 n3 k3] 33)) = W0 at *
  clear hWW
  have hbt1 : w.heap.size + 1 ≤ W0.heap.size := hbt
  go_loopw [9] (fun i wr => ∃ k : Nat, k ≤ n ∧ i = .int .i64 (k : Nat) ∧ Hid (∀ j, j < k → okRise (s0 - 1) l j = true) ∧ Below (w.heap.size + 1) W0 wr) (fun i _ => n - (intOf i).toNat)
  case atStart => exact ⟨0, Nat.zero_le _, rfl, fun j hj => absurd hj (by omega), Below.refl _ _⟩
  case round =>
    obtain ⟨k, hk, rfl, ha, hb⟩ := hrel
    have hwb := hW0.out.trans (hb.mono (Nat.le_succ _))
    have hws := hb.size
    by_cases hlt : k < n
    · obtain ⟨b, off, x, rfl, -, -, g3, hx, p0, -⟩ := SlI.get h.out hlt
      replace p0 := (hwb.cell (p := ⟨b, off + k, none⟩) g3).trans p0
      have y0 := (hb.cell (p := ⟨w.heap.size, 0, none⟩) (Nat.lt_succ_self _)).trans c0
      have y1 := (hb.cell (p := ⟨w.heap.size, 1, none⟩) (Nat.lt_succ_self _)).trans c1
      have y2 := (hb.cell (p := ⟨w.heap.size, 2, none⟩) (Nat.lt_succ_self _)).trans c2
      have y3 := (hb.cell (p := ⟨w.heap.size, 3, none⟩) (Nat.lt_succ_self _)).trans c3
      have q := isState_calls s0 s1 x (.slice A2 n2 k2) (.slice A3 n3 k3) wr h1 h2
      have hprev : Hid (0 < k → ∃ y, l[k - 1]? = some y ∧ wr.cell? ⟨b, off + (k - 1), none⟩ = some (.int .i64 y)) := fun hk0 => by
        obtain ⟨b', off', y, eA, -, -, -, hy, u0, -⟩ := SlI.get h.out (show k - 1 < n by omega)
        cases eA
        exact ⟨y, hy, (hwb.cell (p := ⟨b, off + (k - 1), none⟩) g3).trans u0⟩
      have g3r : b < wr.heap.size := Nat.lt_of_lt_of_le g3 hwb.size
      replace hb := hide hb
      replace hwb := hide hwb
      clear c0 c1 c2 c3
      cases hin : inB x 0 (s0 - 1) with
      | false =>
        rw [hin] at q
        have hv : Hid (risesB (s0 - 1) l = false) := by show _ = _; rw [hval.out]; exact allK_bad hlt (okR_bad hx hin)
        replace q := hide q
        clear hin ha h hx hprev
        go_wp2_with fail
        refine q.out.mono ?_
        rintro e w1 ⟨rfl, hb1⟩
        replace hb1 := hide hb1
        go_wp2_with fail
        go_ret
        exact ⟨ret_b (by rw [hv.out]), hwb.out.trans (hb1.out.mono hwb.out.size)⟩
      | true =>
        rw [hin] at q
        replace q := hide q
        by_cases hk0 : 0 < k
        · obtain ⟨y, hy, u0⟩ := hprev.out hk0
          have hok2 := okR_at (hi := s0 - 1) hx hk0 hy
          rw [hin, Bool.true_and] at hok2
          have hlI : (0 : Int) < (k : Int) := by omega
          have hI2 : (0 : Int) ≤ (k : Int) - 1 := by omega
          have hI4 : (1 : Int) ≤ (k : Int) := by omega
          have hI3 : (k : Int) - 1 < (n : Int) := by omega
          have hI5 : ((k : Int) - 1).toNat = k - 1 := by omega
          clear hx hy hprev h hin
          by_cases hxy : y < x
          · rw [decide_eq_true hxy] at hok2
            have hnext : Hid (∀ j, j < k + 1 → okRise (s0 - 1) l j = true) := lt_succ_cases ha.out hok2
            have hle : ¬ x ≤ y := by omega
            clear hok2 ha hxy
            go_wp2_with fail
            refine q.out.mono ?_
            rintro e w1 ⟨rfl, hb1⟩
            have v0 := (hb1.cell (p := ⟨b, off + (k - 1), none⟩) g3r).trans u0
            replace hb1 := hide hb1
            go_wp2_with fail
            go_roundw
            case rel => exact ⟨k + 1, by omega, by go_num, hnext, hb.out.trans (hb1.out.mono (by omega))⟩
            case measure => simp [intOf]; omega
          · rw [decide_eq_false hxy] at hok2
            have hv : Hid (risesB (s0 - 1) l = false) := by show _ = _; rw [hval.out]; exact allK_bad hlt hok2
            have hle : x ≤ y := by omega
            clear hok2 ha hxy
            go_wp2_with fail
            refine q.out.mono ?_
            rintro e w1 ⟨rfl, hb1⟩
            have v0 := (hb1.cell (p := ⟨b, off + (k - 1), none⟩) g3r).trans u0
            replace hb1 := hide hb1
            go_wp2_with fail
            go_ret
            exact ⟨ret_b (by rw [hv.out]), hwb.out.trans (hb1.out.mono hwb.out.size)⟩
        · have hk00 : k = 0 := by omega
          subst hk00
          have hnext : Hid (∀ j, j < 0 + 1 → okRise (s0 - 1) l j = true) := lt_succ_cases ha.out (by rw [okR_zero hx, hin])
          simp only [Nat.add_zero] at p0
          clear hx hprev h ha hin
          go_wp2_with fail
          refine q.out.mono ?_
          rintro e w1 ⟨rfl, hb1⟩
          replace hb1 := hide hb1
          go_wp2_with fail
          go_roundw
          case rel => exact ⟨0 + 1, by omega, by go_num, hnext, hb.out.trans (hb1.out.mono (by omega))⟩
          case measure => simp [intOf]; omega
    · have hkn : k = n := by omega
      subst hkn
      have hv : Hid (risesB (s0 - 1) l = true) := by show _ = _; rw [hval.out]; exact allK_good ha.out
      clear ha h
      go_wp2_with fail
      go_ret
      exact ⟨ret_b (by rw [hv.out]), hwb⟩

set_option maxRecDepth 100000 in
set_option maxHeartbeats 1600000 in
theorem plant_calls (x : CL) (A4 A5 : Option Addr) (n4 k4 n5 k5 : Nat) (d : DL) (vs : List Int) (ns : List ByteArray) (w : World) (lo hi : Nat) (h : ReadL w lo hi x d) (t4 : SlI w lo hi A4 n4 vs) (t5 : SlS w lo hi A5 n5 ns)
    (hn4 : n4 ≤ 1048576) (hn5 : n5 ≤ 1048576) (hs5 : ∀ s ∈ ns, s.size ≤ 1048576) (htot : totL d ≤ 1048576) (he : Env w) :
    Calls Tryz.prog 22 #[.agg #[.int .i64 x.1, .int .i64 x.2.1, x.2.2.1, x.2.2.2, .slice A4 n4 k4, .slice A5 n5 k5]] w fun e w' => e = .returned (.bool (plantV (d, vs, ns))) ∧ Below w.heap.size w w' := by
  have hbW : Below w.heap.size w (w.alloc (.cells #[.int .i64 x.1, .int .i64 x.2.1, x.2.2.1, x.2.2.2, .slice A4 n4 k4, .slice A5 n5 k5] 44)) := (Below.refl _ _).alloc (Nat.le_refl _) _
  have qa := isDet_calls x d _ lo hi (h.below hbW (.inr (Nat.le_refl _))) htot (he.below hbW (Nat.le_refl _))
  have hval : plantV (d, vs, ns) = (detV d && (risesB (d.1 - 1) vs && actsB ns)) := rfl
  obtain ⟨s0, s1, v2, v3⟩ := x
  obtain ⟨st, ini, ls, es⟩ := d
  obtain ⟨e0, e1, ⟨A2, n2, k2, e2, hn2, hs2, t2⟩, ⟨A3, n3, k3, e3, hn3, t3⟩⟩ := h
  dsimp only at *
  subst e0 e1 e2 e3
  have qb := fun (h1 : 1 ≤ s0) (h2 : s0 ≤ 40) W (hW : Below w.heap.size w W) => statesOk_calls s0 s1 A2 n2 k2 A3 n3 k3 A4 n4 k4 vs W lo hi (t4.below hW (.inr (Nat.le_refl _))) hn4 h1 h2
  have qc := fun W (hW : Below w.heap.size w W) => namesOk_calls A5 n5 k5 ns W lo hi (t5.below hW (.inr (Nat.le_refl _))) hn5 hs5
  have kE := heap_alloc_new w (.cells #[.int .i64 s0, .int .i64 s1, .slice A2 n2 k2, .slice A3 n3 k3, .slice A4 n4 k4, .slice A5 n5 k5] 44)
  have hbt : w.heap.size < (w.alloc (.cells #[.int .i64 s0, .int .i64 s1, .slice A2 n2 k2, .slice A3 n3 k3, .slice A4 n4 k4, .slice A5 n5 k5] 44)).heap.size := by rw [World.size_alloc]; omega
  clear t2 t3 t4 t5 hs5 htot he hn2 hn3 hs2
  have c0 : (w.alloc (.cells #[.int .i64 s0, .int .i64 s1, .slice A2 n2 k2, .slice A3 n3 k3, .slice A4 n4 k4, .slice A5 n5 k5] 44)).cell? ⟨w.heap.size, 0, none⟩ = some (.int .i64 s0) := (cell_of_row _ _ 0 _ _ (0, 0) kE).trans rfl
  have c1 : (w.alloc (.cells #[.int .i64 s0, .int .i64 s1, .slice A2 n2 k2, .slice A3 n3 k3, .slice A4 n4 k4, .slice A5 n5 k5] 44)).cell? ⟨w.heap.size, 1, none⟩ = some (.int .i64 s1) := (cell_of_row _ _ 1 _ _ (0, 0) kE).trans rfl
  have c2 : (w.alloc (.cells #[.int .i64 s0, .int .i64 s1, .slice A2 n2 k2, .slice A3 n3 k3, .slice A4 n4 k4, .slice A5 n5 k5] 44)).cell? ⟨w.heap.size, 2, none⟩ = some (.slice A2 n2 k2) := (cell_of_row _ _ 2 _ _ (0, 0) kE).trans rfl
  have c3 : (w.alloc (.cells #[.int .i64 s0, .int .i64 s1, .slice A2 n2 k2, .slice A3 n3 k3, .slice A4 n4 k4, .slice A5 n5 k5] 44)).cell? ⟨w.heap.size, 3, none⟩ = some (.slice A3 n3 k3) := (cell_of_row _ _ 3 _ _ (0, 0) kE).trans rfl
  have c4 : (w.alloc (.cells #[.int .i64 s0, .int .i64 s1, .slice A2 n2 k2, .slice A3 n3 k3, .slice A4 n4 k4, .slice A5 n5 k5] 44)).cell? ⟨w.heap.size, 4, none⟩ = some (.slice A4 n4 k4) := (cell_of_row _ _ 4 _ _ (0, 0) kE).trans rfl
  have c5 : (w.alloc (.cells #[.int .i64 s0, .int .i64 s1, .slice A2 n2 k2, .slice A3 n3 k3, .slice A4 n4 k4, .slice A5 n5 k5] 44)).cell? ⟨w.heap.size, 5, none⟩ = some (.slice A5 n5 k5) := (cell_of_row _ _ 5 _ _ (0, 0) kE).trans rfl
  cases h1 : detV (s0, s1, ls, es) with
  | false =>
    rw [h1] at qa hval
    have hv : Hid (plantV ((s0, s1, ls, es), vs, ns) = false) := hval
    replace qa := hide qa
    replace hbW := hide hbW
    clear qb qc hval h1 kE
    go_enter Tryz.func22, Tryz.ntmps22
    go_wp2_with fail
    refine qa.out.mono ?_
    rintro e w1 ⟨rfl, hb1⟩
    replace hb1 := hide hb1
    go_wp2_with fail
    go_ret
    exact ⟨ret_b (by rw [hv.out]), hbW.out.trans (hb1.out.mono hbW.out.size)⟩
  | true =>
  have hst : inB s0 1 40 = true := by
    unfold detV at h1
    rw [Bool.and_eq_true] at h1
    have h2 := h1.1
    unfold ltsV ltsB at h2
    simp only [Bool.and_eq_true] at h2
    exact h2.1.1.1.1
  replace qb := qb (inB_true.1 hst).1 (inB_true.1 hst).2
  rw [h1] at qa hval
  replace qa := hide qa
  clear h1 hst
  cases h2 : risesB (s0 - 1) vs with
  | false =>
    rw [h2] at hval
    simp only [h2] at qb
    have hv : Hid (plantV ((s0, s1, ls, es), vs, ns) = false) := hval
    replace qb := hide qb
    clear qc hval h2
    go_enter Tryz.func22, Tryz.ntmps22
    go_wp2_with fail
    refine qa.out.mono ?_
    rintro e w1 ⟨rfl, hb1⟩
    replace kE := (hb1.block _ hbt).trans kE
    replace hbW := hbW.trans (hb1.mono hbW.size)
    clear c0 c1 c2 c3 c4 c5 hb1
    have c0 : w1.cell? ⟨w.heap.size, 0, none⟩ = some (.int .i64 s0) := (cell_of_row _ _ 0 _ _ (0, 0) kE).trans rfl
    have c1 : w1.cell? ⟨w.heap.size, 1, none⟩ = some (.int .i64 s1) := (cell_of_row _ _ 1 _ _ (0, 0) kE).trans rfl
    have c2 : w1.cell? ⟨w.heap.size, 2, none⟩ = some (.slice A2 n2 k2) := (cell_of_row _ _ 2 _ _ (0, 0) kE).trans rfl
    have c3 : w1.cell? ⟨w.heap.size, 3, none⟩ = some (.slice A3 n3 k3) := (cell_of_row _ _ 3 _ _ (0, 0) kE).trans rfl
    have c4 : w1.cell? ⟨w.heap.size, 4, none⟩ = some (.slice A4 n4 k4) := (cell_of_row _ _ 4 _ _ (0, 0) kE).trans rfl
    clear kE
    go_wp2_with fail
    refine (qb.out _ hbW).mono ?_
    rintro e w2 ⟨rfl, hb2⟩
    replace hbW := hide (hbW.trans (hb2.mono hbW.size))
    clear hb2 c0 c1 c2 c3 c4
    go_wp2_with fail
    go_ret
    exact ⟨ret_b (by rw [hv.out]), hbW.out⟩
  | true =>
  rw [h2] at hval
  simp only [h2] at qb
  have hv : Hid (plantV ((s0, s1, ls, es), vs, ns) = actsB ns) := hval
  replace qb := hide qb
  replace qc := hide qc
  clear hval h2
  go_enter Tryz.func22, Tryz.ntmps22
  go_wp2_with fail
  refine qa.out.mono ?_
  rintro e w1 ⟨rfl, hb1⟩
  replace kE := (hb1.block _ hbt).trans kE
  replace hbW := hbW.trans (hb1.mono hbW.size)
  replace hbt := Nat.lt_of_lt_of_le hbt hb1.size
  clear c0 c1 c2 c3 c4 c5 hb1
  have c0 : w1.cell? ⟨w.heap.size, 0, none⟩ = some (.int .i64 s0) := (cell_of_row _ _ 0 _ _ (0, 0) kE).trans rfl
  have c1 : w1.cell? ⟨w.heap.size, 1, none⟩ = some (.int .i64 s1) := (cell_of_row _ _ 1 _ _ (0, 0) kE).trans rfl
  have c2 : w1.cell? ⟨w.heap.size, 2, none⟩ = some (.slice A2 n2 k2) := (cell_of_row _ _ 2 _ _ (0, 0) kE).trans rfl
  have c3 : w1.cell? ⟨w.heap.size, 3, none⟩ = some (.slice A3 n3 k3) := (cell_of_row _ _ 3 _ _ (0, 0) kE).trans rfl
  have c4 : w1.cell? ⟨w.heap.size, 4, none⟩ = some (.slice A4 n4 k4) := (cell_of_row _ _ 4 _ _ (0, 0) kE).trans rfl
  go_wp2_with fail
  refine (qb.out _ hbW).mono ?_
  rintro e w2 ⟨rfl, hb2⟩
  replace kE := (hb2.block _ hbt).trans kE
  replace hbW := hbW.trans (hb2.mono hbW.size)
  clear hb2 c0 c1 c2 c3 c4
  have c5 : w2.cell? ⟨w.heap.size, 5, none⟩ = some (.slice A5 n5 k5) := (cell_of_row _ _ 5 _ _ (0, 0) kE).trans rfl
  clear kE
  go_wp2_with fail
  refine (qc.out _ hbW).mono ?_
  rintro e w3 ⟨rfl, rfl⟩
  replace hbW := hide hbW
  go_wp2_with fail
  go_ret
  exact ⟨ret_b (by rw [hv.out]), hbW.out⟩

end Go.Proofs.YtiaclddgllkgpaaGreatDoor
