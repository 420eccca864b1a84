/-
  Several texts in one:
  A partition refined once, by the program. Conditions: systems of at most 40 states.
  Rounds of refinement by the program: the partitions one after the other, up to the first one that stays. Conditions: at most 40 states; the next partition by whatever function value.
  Partitions of a valid system by rounds of refinement, by the program: the last round, the classes, the round that tells two states apart, one round more. Conditions: valid systems.
  strong on a system of which only the edges matter; the union's edges. Conditions: sizes.
  Bisimulation, and the last round of refinement as the greatest one: plain. Conditions: none.
  A part of a system and the system of the blocks of a stable partition are bisimilar to it: plain. Conditions: none.
  The union's steps by texts are the two systems' steps side by side. Conditions: none.
  areAlike with strong, AreBisimilar. Conditions: sizes.
-/
import Derived.Test.YtnhomkmfbngmgaaGreatDoorBaseE
import Derived.Test.YtnhomkmfbngmgaaGreatDoorBaseF
import Derived.Test.YtnhomkmfbngmgaaGreatDoorBaseG
import Derived.Test.YtnhomkmfbngmgaaGreatDoorBaseH
import Derived.Deep.RegionHeld3
set_option linter.unusedSimpArgs false
set_option linter.unusedVariables false
namespace Go.Proofs.YtnhomkmfbngmgaaGreatDoor
open Go.ChangeShapes Go.WideShapes Go.ChangeAt Go.RowKit Go.Sort
set_option linter.unusedVariables false
set_option linter.unusedSimpArgs false

theorem grown_cell9 {w w' : World} {row : Option Nat} {q i : Nat} {v : Value} (h : w.grownBy w' row) (hq : q < w.heap.size) (hne : some q ≠ row) (hc : w.cell? ⟨q, i, none⟩ = some v) : w'.cell? ⟨q, i, none⟩ = some v :=
  (World.cell?_of_block (w := w) (by simpa using h.block q hq hne)).trans hc
theorem grown_frozen9 {w w' : World} {row : Option Nat} {q i : Nat} {b : Bool} (h : w.grownBy w' row) (hq : q < w.heap.size) (hne : some q ≠ row) (hc : w.frozen? ⟨q, i, none⟩ = b) : w'.frozen? ⟨q, i, none⟩ = b :=
  (World.frozen?_of_block (w := w) (by simpa using h.block q hq hne)).trans hc
theorem cdL_succ {es : List Ed} {k N : Nat} {p : List Int} {e : Ed} (hx : es[k]? = some e) (j : Nat) : cdL (es.take (k + 1)) N p j = cdL (es.take k) N p j ++ (if e.1 = (j : Int) then [cdE N p e] else []) := by
  unfold cdL
  rw [List.take_add_one, hx, List.filter_append, List.map_append]
  congr 1
  by_cases h : e.1 = (j : Int) <;> simp [h]
theorem cdL_len (es : List Ed) (N : Nat) (p : List Int) (j : Nat) : (cdL es N p j).length ≤ es.length := by
  unfold cdL; rw [List.length_map]; exact List.length_filter_le _ _
theorem keyR_len (es : List Ed) (N : Nat) (p : List Int) (j : Nat) : (keyR es N p j).length ≤ es.length + 1 := by
  unfold keyR
  rw [List.length_cons]
  have h1 := compact_len (sortI (cdL es N p j))
  rw [sortI_len] at h1
  have := cdL_len es N p j
  omega

set_option maxRecDepth 100000 in
set_option maxHeartbeats 12800000 in
theorem refine_calls (N ini : Nat) (A2 : Option Addr) (n2 k2 : Nat) (A3 : Option Addr) (n3 k3 : Nat) (A1 : Option Addr) (c1 : Nat) (es : List Ed) (p : List Int) (w : World) (lo hi lo1 hi1 : Nat)
    (t3 : SlE w lo hi A3 n3 es) (t1 : SlI w lo1 hi1 A1 N p) (hes : n3 ≤ 100000) (hN1 : 1 ≤ N) (hN : N ≤ 40) (he : EdIn N es) (hL : ∀ e, e ∈ es → e.2.1 ≤ 1000) (hp : ∀ x, x ∈ p → 0 ≤ x ∧ x < (N : Int)) :
    Calls Tryz.prog 81 #[.agg #[.int .i64 (N : Int), .int .i64 (ini : Int), .slice A2 n2 k2, .slice A3 n3 k3], .slice A1 N c1] w fun e w' => ∃ B, e = .returned (.slice (some ⟨B, 0, none⟩) N N) ∧ SlI w' w.heap.size w'.heap.size (some ⟨B, 0, none⟩) N (refF es N p) ∧ Below w.heap.size w w' := by
  have hEi := hide elem_int
  have hmk := run_make_rows N (by omega)
  have hlp := t1.len
  have hl3 := t3.len
  have hb1 := (Below.refl w.heap.size w).alloc (Nat.le_refl _) (.cells #[.int .i64 (N : Int), .int .i64 (ini : Int), .slice A2 n2 k2, .slice A3 n3 k3] 27)
  have kt := heap_alloc_new w (.cells #[.int .i64 (N : Int), .int .i64 (ini : Int), .slice A2 n2 k2, .slice A3 n3 k3] 27)
  have hz1 : (w.alloc (.cells #[.int .i64 (N : Int), .int .i64 (ini : Int), .slice A2 n2 k2, .slice A3 n3 k3] 27)).heap.size = w.heap.size + 1 := by simp
  obtain ⟨w1, hw1⟩ : ∃ w1, w1 = w.alloc (.cells #[.int .i64 (N : Int), .int .i64 (ini : Int), .slice A2 n2 k2, .slice A3 n3 k3] 27) := ⟨_, rfl⟩
  rw [← hw1] at hb1 kt hz1
  have kt1 : Hid (LtsBox w1 w.heap.size (N : Int) (ini : Int) A2 n2 k2 A3 n3 k3) := kt
  have b0 := kt1.out.c0
  have t3' := hide (t3.below hb1 (.inr (Nat.le_refl _)))
  have t1' := hide (t1.below hb1 (.inr (Nat.le_refl _)))
  obtain ⟨gp, op, rfl, -, -, hgp1, -⟩ := t1'.out.at_ hN1
  obtain ⟨bk, hbk⟩ : ∃ bk, bk = w1.heap.size := ⟨_, rfl⟩
  rw [← hbk] at hgp1
  have hbk1 : w.heap.size < bk := by omega
  replace hz1 := hide hz1
  have hM0 := BackM.made w1 N
  have hbm0 := (Below.refl w1.heap.size w1).alloc (Nat.le_refl _) (.cells (madeCells #[.slice none 0 0] N) 32)
  rw [← hbk] at hM0 hbm0
  replace hM0 := hide hM0
  replace hbm0 := hide hbm0
  replace hb1 := hide hb1
  clear kt t3 t1
  go_enter Tryz.func81, Tryz.ntmps81
  go_upto_region 1 with fail
  rw [← hw1]
  replace hw1 := hide hw1
  go_upto_region 2 with fail
  rw [← hbk]
  have hbkw : w1.heap.size ≤ bk := Nat.le_of_eq hbk.symm
  replace hbk := hide hbk
  clear b0
  go_wp2_with fail
  go_loopw [18] (fun i wr => ∃ (k : Nat) (R : List (Hd × List Int)), k ≤ N ∧ i = .int .i64 (k : Nat) ∧ Hid (BackM wr bk (bk + 1) R) ∧ Hid (RowsAre R N fun j => if j < k then [(p[j]?).getD 0] else []) ∧ Hid (Below bk w1 wr)) (fun i _ => N - (intOf i).toNat)
  case atStart => exact ⟨0, _, Nat.zero_le _, rfl, hM0.out, ⟨by simp, fun j r hr => by
    have h1 := (List.getElem?_eq_some_iff.1 hr).1
    rw [List.length_replicate] at h1
    rw [List.getElem?_replicate, if_pos h1] at hr
    cases hr
    exact (if_neg (Nat.not_lt_zero j)).symm⟩, hbm0.out⟩
  case round =>
    clear hM0 hbm0
    obtain ⟨k, R, hk, rfl, hM, hR, hb⟩ := hrel
    by_cases hlt : k < N
    · have k0 : (0 : Int) ≤ (k : Int) := by omega
      have k1 : (k : Int) < (N : Int) := by omega
      obtain ⟨gp2, op2, x, e9, -, -, -, hx, cx, -⟩ := SlI.get (t1'.out.below hb.out (.inr hbkw)) hlt
      cases e9
      obtain ⟨r, hr⟩ : ∃ r, R[k]? = some r := ⟨_, List.getElem?_eq_getElem (by rw [hR.out.1]; exact hlt)⟩
      have hMa := hM.out.alloc (.cells #[.int .i64 x] 2)
      have hfz := (hMa.cell hr).2
      have hcz := (hMa.cell hr).1
      have hbkl : bk < wr.heap.size := hM.out.lt
      have hnew : Own 1 iv (wr.alloc (.cells #[.int .i64 x] 2)) (bk + 1) 2 (some ⟨wr.heap.size, 0, none⟩) 1 1 [x] := Own.litL (heap_alloc_new wr _) rfl hbkl
      have hM2 := hide (hM.out.push (Nat.lt_succ_self _) hbkl hr hnew (grown_alloc wr _ _) (.inr rfl))
      have hR2 : Hid (RowsAre (R.set k ((some ⟨wr.heap.size, 0, none⟩, 1, 1), [x])) N fun j => if j < k + 1 then [(p[j]?).getD 0] else []) := hR.out.set hlt (by show [x] = _; rw [if_pos (by omega), hx]; rfl) fun j hj _ => by
        by_cases e : j < k
        · rw [if_pos e, if_pos (by omega)]
        · rw [if_neg e, if_neg (by omega)]
      have hb2 := hide ((hb.out.alloc (Nat.le_of_lt (Nat.lt_of_le_of_lt (Nat.le_refl bk) hbkl)) (.cells #[.int .i64 x] 2)).setCell (p := ⟨bk, k, none⟩) (Nat.le_refl _) (.slice (some ⟨wr.heap.size, 0, none⟩) 1 1))
      rw [World.setCell_alloc_past _ _ _ _ hbkl] at hM2 hb2
      replace hx := hide hx
      clear hMa hnew hR hM hr hb
      go_wp2_with fail
      go_roundw
      case rel => exact ⟨k + 1, _, by omega, by go_num, hM2.out, hR2.out, hb2.out⟩
      case measure => simp [intOf]; omega
    · obtain rfl : k = N := by omega
      have k1 : ¬ (k : Int) < (k : Int) := by omega
      obtain ⟨N, rfl⟩ : ∃ N, N = k := ⟨_, rfl⟩
      obtain ⟨wK, rfl⟩ : ∃ wK : World, wK = wr := ⟨_, rfl⟩
      have ktK := hide (kt1.out.below hb.out hbk1)
      have b0 := ktK.out.c0
      have b3 := ktK.out.c3
      obtain ⟨bs, hbs⟩ : ∃ bs, bs = wK.heap.size := ⟨_, rfl⟩
      have hbks : bk < bs := by rw [hbs]; exact hM.out.lt
      have hM0 := BackM.made wK N
      have hbm0 := (Below.refl wK.heap.size wK).alloc (Nat.le_refl _) (.cells (madeCells #[.slice none 0 0] N) 32)
      have b3' := (hbm0.cell (p := ⟨w.heap.size, 3, none⟩) (by rw [← hbs]; show w.heap.size < bs; omega)).trans b3
      rw [← hbs] at hM0 hbm0
      replace hM0 := hide hM0
      replace hbm0 := hide hbm0
      have t3K := hide (t3'.out.below hb.out (.inr hbkw))
      have t1K := hide (t1'.out.below hb.out (.inr hbkw))
      have hbsK : bs ≤ wK.heap.size := Nat.le_of_eq hbs
      have hbsK2 : wK.heap.size ≤ bs := Nat.le_of_eq hbs.symm
      have hRK : Hid (RowsAre R N fun j => [(p[j]?).getD 0]) := ⟨hR.out.1, fun j r hr => by
        have h1 := (List.getElem?_eq_some_iff.1 hr).1
        rw [hR.out.1] at h1
        exact (hR.out.2 j r hr).trans (if_pos h1)⟩
      obtain ⟨RK, rfl⟩ : ∃ RK, RK = R := ⟨_, rfl⟩
      clear hR
      go_upto_region 8 with fail
      rw [← hbs]
      replace hbs := hide hbs
      clear b0 b3
      go_wp2_with fail
      clear b3'
      go_loopw [35] (fun i wr => ∃ (k : Nat) (R : List (Hd × List Int)), k ≤ n3 ∧ i = .int .i64 (k : Nat) ∧ Hid (BackM wr bs (bs + 1) R) ∧ Hid (RowsAre R N (cdL (es.take k) N p)) ∧ Hid (Below bs wK wr)) (fun i _ => n3 - (intOf i).toNat)
      case atStart => exact ⟨0, _, Nat.zero_le _, rfl, hM0.out, ⟨by simp, fun j r hr => by
        have h1 := (List.getElem?_eq_some_iff.1 hr).1
        rw [List.length_replicate] at h1
        rw [List.getElem?_replicate, if_pos h1] at hr
        cases hr
        rfl⟩, hbm0.out⟩
      case round =>
        clear hM0 hbm0
        obtain ⟨k, R, hk, rfl, hMS, hR, hbS⟩ := hrel
        by_cases hlt : k < n3
        · have k0 : (0 : Int) ≤ (k : Int) := by omega
          have k1 : (k : Int) < (n3 : Int) := by omega
          obtain ⟨ge, oe, f, l, t, rfl, -, -, hge, hx, x0, x1, x2, -⟩ := SlE.get (t3K.out.below hbS.out (.inr hbsK2)) hlt
          have hin := he _ (List.mem_of_getElem? hx)
          have hlb := hL _ (List.mem_of_getElem? hx)
          (try dsimp only at hin hlb)
          obtain ⟨f, rfl⟩ : ∃ k : Nat, f = (k : Int) := ⟨f.toNat, by omega⟩
          obtain ⟨t, rfl⟩ : ∃ k : Nat, t = (k : Int) := ⟨t.toNat, by omega⟩
          obtain ⟨l, rfl⟩ : ∃ k : Nat, l = (k : Int) := ⟨l.toNat, by omega⟩
          have hfN : f < N := by omega
          have htN : t < N := by omega
          obtain ⟨gp2, op2, x, e9, -, -, hgp, hpx, cx, -⟩ := SlI.get (t1K.out.below hbS.out (.inr hbsK2)) htN
          cases e9
          have hxb := hp x (List.mem_of_getElem? hpx)
          obtain ⟨⟨⟨rA, rn, rc⟩, rl⟩, hr⟩ : ∃ r, R[f]? = some r := ⟨_, List.getElem?_eq_getElem (by rw [hR.out.1]; exact hfN)⟩
          have hrl : rl = cdL (es.take k) N p f := hR.out.2 f _ hr
          have hrn : rl.length = rn := (hMS.out.rows f _ hr).len
          have hrn2 : rn ≤ n3 := by
            have h1 := cdL_len (es.take k) N p f
            rw [← hrl, hrn, List.length_take] at h1
            omega
          -- the box of the edge
          have kE := heap_alloc_new wr (.cells #[.int .i64 (f : Int), .int .i64 (l : Int), .int .i64 (t : Int)] 84)
          have hbE := (Below.refl wr.heap.size wr).alloc (Nat.le_refl _) (.cells #[.int .i64 (f : Int), .int .i64 (l : Int), .int .i64 (t : Int)] 84)
          have hME := hMS.out.alloc (.cells #[.int .i64 (f : Int), .int .i64 (l : Int), .int .i64 (t : Int)] 84)
          obtain ⟨wE, hwE⟩ : ∃ wE, wE = wr.alloc (.cells #[.int .i64 (f : Int), .int .i64 (l : Int), .int .i64 (t : Int)] 84) := ⟨_, rfl⟩
          rw [← hwE] at kE hbE hME
          obtain ⟨be, hbe⟩ : ∃ be, be = wr.heap.size := ⟨_, rfl⟩
          rw [← hbe] at kE
          go_upto_region 11 with fail
          rw [← hwE, ← hbe]
          have hber : wr.heap.size ≤ be := Nat.le_of_eq hbe.symm
          have hbsr : bs < wr.heap.size := hMS.out.lt
          have ktr := (ktK.out.below hbS.out (by omega)).below hbE (by omega)
          have hcode : cdE N p ((f : Int), (l : Int), (t : Int)) = (l : Int) * (N : Int) + x := by unfold cdE; simp only [Int.toNat_natCast]; rw [hpx]; rfl
          obtain ⟨mv, hmv⟩ : ∃ mv : Nat, mv = l * N := ⟨_, rfl⟩
          have hmvb : mv ≤ 1000 * 40 := by rw [hmv]; exact Nat.mul_le_mul (by omega) hN
          have hmul : (l : Int) * (N : Int) = (mv : Int) := by rw [hmv, Int.natCast_mul]
          have hw1 : IntKind.i64.wrap ((l : Int) * (N : Int)) = (mv : Int) := by rw [hmul]; exact IntWalk.i64_in _ (by omega)
          obtain ⟨cv, hcv⟩ : ∃ cv : Int, cv = (mv : Int) + x := ⟨_, rfl⟩
          have hw2 : IntKind.i64.wrap ((mv : Int) + x) = cv := by rw [hcv]; exact IntWalk.i64_in _ (by omega)
          have hcode2 : cdE N p ((f : Int), (l : Int), (t : Int)) = cv := by rw [hcode, hmul, hcv]
          obtain ⟨wD, hwD⟩ : ∃ wD, wD = wE.drew := ⟨_, rfl⟩
          have hMD : BackM wD bs (bs + 1) R := by rw [hwD]; exact ⟨hME.outer, hME.rows, hME.apart⟩
          have hzD : wD.heap.size = wE.heap.size := by rw [hwD]; rfl
          have hbD : Below wr.heap.size wr wD := by rw [hwD]; exact hbE.drew
          have e0 : wD.cell? ⟨be, 0, none⟩ = some (.int .i64 (f : Int)) := by rw [hwD]; exact (cell_of_row wE be 0 _ _ (0, 0) kE).trans rfl
          have e1 : wD.cell? ⟨be, 1, none⟩ = some (.int .i64 (l : Int)) := by rw [hwD]; exact (cell_of_row wE be 1 _ _ (0, 0) kE).trans rfl
          have e2 : wD.cell? ⟨be, 2, none⟩ = some (.int .i64 (t : Int)) := by rw [hwD]; exact (cell_of_row wE be 2 _ _ (0, 0) kE).trans rfl
          have e3 : wD.cell? ⟨w.heap.size, 0, none⟩ = some (.int .i64 (N : Int)) := by rw [hwD]; exact ktr.c0
          have e4 := (hMD.cell hr).1
          have e5 : wD.cell? ⟨gp, op + t, none⟩ = some (.int .i64 x) := (hbD.cell (p := ⟨gp, op + t, none⟩) hgp).trans cx
          have hbel : be < wD.heap.size := by rw [hzD]; exact (Array.getElem?_eq_some_iff.1 kE).1
          have hzr : wr.heap.size ≤ wD.heap.size := hbD.size
          have hbA := (Below.refl wD.heap.size wD).alloc (Nat.le_refl _) (.cells #[.int .i64 cv] 2)
          have hMA := hMD.alloc (.cells #[.int .i64 cv] 2)
          have hOa := hide (hMA.rows f _ hr)
          have hfz := (hMA.cell hr).2
          have hlit := hide (Sl.lit1' (f := iv) wD 2 cv #[.int .i64 cv] rfl 1 _ rfl)
          have hsz : (rn + 1) * 8 ≤ 140737488355328 := by omega
          have hza : bs + 1 ≤ (wD.alloc (.cells #[.int .i64 cv] 2)).heap.size := by rw [World.size_alloc]; omega
          have hzA : (wD.alloc (.cells #[.int .i64 cv] 2)).heap.size = wD.heap.size + 1 := World.size_alloc _ _
          have a0 := (hbA.cell (p := ⟨be, 0, none⟩) hbel).trans e0
          have a1 := (hbA.cell (p := ⟨be, 1, none⟩) hbel).trans e1
          have a2 := (hbA.cell (p := ⟨be, 2, none⟩) hbel).trans e2
          have a3 := (hbA.cell (p := ⟨w.heap.size, 0, none⟩) (by show w.heap.size < _; omega)).trans e3
          have a4 := (hMA.cell hr).1
          have a5 := (hbA.cell (p := ⟨gp, op + t, none⟩) (by show gp < _; omega)).trans e5
          have hne : ∀ q, q < bs + 1 → some q ≠ (Value.slice rA rn rc).ownBlock := fun q hq e => by
            have := (hOa.out.lt q e.symm).1
            omega
          have hneb : some be ≠ (Value.slice rA rn rc).ownBlock := fun e => by
            have := (hMS.out.rows f _ hr).lt be e.symm
            omega
          have v0 := hneb
          have v1 := hne w.heap.size (by omega)
          have v2 := hne bs (by omega)
          have v3 := hne gp (by omega)
          have m0 : be < (wD.alloc (.cells #[.int .i64 cv] 2)).heap.size := by omega
          have m1 : w.heap.size < (wD.alloc (.cells #[.int .i64 cv] 2)).heap.size := by omega
          have m2 : bs < (wD.alloc (.cells #[.int .i64 cv] 2)).heap.size := by omega
          have m3 : gp < (wD.alloc (.cells #[.int .i64 cv] 2)).heap.size := by omega
          have f0 : (0 : Int) ≤ (f : Int) := by omega
          have f1 : (f : Int) < (N : Int) := by omega
          have u0 : (0 : Int) ≤ (t : Int) := by omega
          have u1 : (t : Int) < (N : Int) := by omega
          have hpushM := hide (fun (A7 : Option Addr) (c7 : Nat) (w7 : World) (hown7 : Own 1 iv w7 (bs + 1) 2 A7 (rn + 1) c7 (rl ++ [cv])) (hgr7 : (wD.alloc (.cells #[.int .i64 cv] 2)).grownBy w7 (Value.slice rA rn rc).ownBlock) (hat7) => hMA.push (Nat.lt_succ_self _) hza hr hown7 hgr7 hat7)
          have hR2 : Hid (∀ (A7 : Option Addr) (c7 : Nat), RowsAre (R.set f ((A7, rn + 1, c7), rl ++ [cv])) N (cdL (es.take (k + 1)) N p)) := fun A7 c7 => hR.out.set hfN (by show rl ++ [cv] = _; rw [cdL_succ hx, if_pos rfl, hcode2, hrl]) fun j hj _ => by
            rw [cdL_succ hx, if_neg (by show ¬ (f : Int) = (j : Int); omega), List.append_nil]
          have hbelA := hide ((hbS.out.trans (hbD.mono (by omega))).alloc (by omega) (.cells #[.int .i64 cv] 2))
          replace hx := hide hx
          replace hpx := hide hpx
          replace hr := hide hr
          replace hmv := hide hmv
          replace hcv := hide hcv
          replace hwD := hide hwD
          replace hbe := hide hbe
          replace hwE := hide hwE
          clear x0 x1 x2 cx kE hbE hME hMD hMA hbD hbA ktr hcode hcode2 hmul hR hMS hbS hrl hneb hne
          refine lateT_begin (S := fun w' => w'.cell? ⟨be, 0, none⟩ = some (.int .i64 (f : Int)) ∧ w'.cell? ⟨be, 1, none⟩ = some (.int .i64 (l : Int)) ∧ w'.cell? ⟨be, 2, none⟩ = some (.int .i64 (t : Int)) ∧ w'.cell? ⟨w.heap.size, 0, none⟩ = some (.int .i64 (N : Int)) ∧ w'.cell? ⟨bs, f, none⟩ = some (.slice rA rn rc) ∧ w'.cell? ⟨gp, op + t, none⟩ = some (.int .i64 x)) (st := 22) (by kernel_rfl) ?_
          rw [← show wD = _ from hwD.out]
          have hS0 : (fun w' : World => w'.cell? ⟨be, 0, none⟩ = some (.int .i64 (f : Int)) ∧ w'.cell? ⟨be, 1, none⟩ = some (.int .i64 (l : Int)) ∧ w'.cell? ⟨be, 2, none⟩ = some (.int .i64 (t : Int)) ∧ w'.cell? ⟨w.heap.size, 0, none⟩ = some (.int .i64 (N : Int)) ∧ w'.cell? ⟨bs, f, none⟩ = some (.slice rA rn rc) ∧ w'.cell? ⟨gp, op + t, none⟩ = some (.int .i64 x)) wD := ⟨e0, e1, e2, e3, e4, e5⟩
          refine lateT_take (i := 0) (oi := _) (v := ?_) [22] rfl (by kernel_rfl) (by kernel_rfl) (by kernel_rfl) (by kernel_rfl) (fun _ _ _ h => h) (Or.inl ⟨by rfl, ?hy⟩) hS0 ?_
          case hy => (intro w hSw; (try dsimp only at hSw); go_simp <;> with_reducible rfl)
          (try simp only [Act.put, List.setIfInBounds_toArray, List.set_cons_zero, List.set_cons_succ])
          refine lateT_take (i := 1) (oi := _) (v := ?_) [22] rfl (by kernel_rfl) (by kernel_rfl) (by kernel_rfl) (by kernel_rfl) (fun _ _ _ h => h) (Or.inl ⟨by rfl, ?hy⟩) hS0 ?_
          case hy => (intro w hSw; (try dsimp only at hSw); go_simp <;> with_reducible rfl)
          (try simp only [Act.put, List.setIfInBounds_toArray, List.set_cons_zero, List.set_cons_succ])
          refine lateT_take (i := 2) (oi := _) (v := ?_) [22] rfl (by kernel_rfl) (by kernel_rfl) (by kernel_rfl) (by kernel_rfl) (fun _ _ _ h => h) (Or.inl ⟨by rfl, ?hy⟩) hS0 ?_
          case hy => (intro w hSw; (try dsimp only at hSw); go_simp <;> with_reducible rfl)
          (try simp only [Act.put, List.setIfInBounds_toArray, List.set_cons_zero, List.set_cons_succ])
          refine lateT_take (i := 3) (oi := _) (v := ?_) [22] rfl (by kernel_rfl) (by kernel_rfl) (by kernel_rfl) (by kernel_rfl) (fun _ _ _ h => h) (Or.inl ⟨by rfl, ?hy⟩) hS0 ?_
          case hy => (intro w hSw; (try dsimp only at hSw); go_simp <;> with_reducible rfl)
          (try simp only [Act.put, List.setIfInBounds_toArray, List.set_cons_zero, List.set_cons_succ])
          refine lateT_take (i := 4) (oi := _) (v := ?_) [22] rfl (by kernel_rfl) (by kernel_rfl) (by kernel_rfl) (by kernel_rfl) (fun _ _ _ h => h) (Or.inl ⟨by rfl, ?hy⟩) hS0 ?_
          case hy => (intro w hSw; (try dsimp only at hSw); go_simp <;> with_reducible rfl)
          (try simp only [Act.put, List.setIfInBounds_toArray, List.set_cons_zero, List.set_cons_succ])
          refine lateT_take (i := 5) (oi := _) (v := ?_) [22] rfl (by kernel_rfl) (by kernel_rfl) (by kernel_rfl) (by kernel_rfl) (fun _ _ _ h => h) (Or.inl ⟨by rfl, ?hy⟩) hS0 ?_
          case hy => (intro w hSw; (try dsimp only at hSw); go_simp <;> with_reducible rfl)
          (try simp only [Act.put, List.setIfInBounds_toArray, List.set_cons_zero, List.set_cons_succ])
          refine lateT_take (i := 6) (oi := _) (v := ?_) [22] rfl (by kernel_rfl) (by kernel_rfl) (by kernel_rfl) (by kernel_rfl) (fun _ _ _ h => h) (Or.inl ⟨by rfl, ?hy⟩) hS0 ?_
          case hy => (intro w hSw; (try dsimp only at hSw); go_simp <;> with_reducible rfl)
          (try simp only [Act.put, List.setIfInBounds_toArray, List.set_cons_zero, List.set_cons_succ])
          refine lateT_take (i := 7) (oi := _) (v := ?_) [22] rfl (by kernel_rfl) (by kernel_rfl) (by kernel_rfl) (by kernel_rfl) (fun _ _ _ h => h) (Or.inl ⟨by rfl, ?hy⟩) hS0 ?_
          case hy => (intro w hSw; (try dsimp only at hSw); go_simp <;> with_reducible rfl)
          (try simp only [Act.put, List.setIfInBounds_toArray, List.set_cons_zero, List.set_cons_succ])
          refine lateT_take (i := 8) (oi := _) (v := ?_) [22] rfl (by kernel_rfl) (by kernel_rfl) (by kernel_rfl) (by kernel_rfl) (fun _ _ _ h => h) (Or.inl ⟨by rfl, ?hy⟩) hS0 ?_
          case hy => (intro w hSw; (try dsimp only at hSw); go_simp <;> with_reducible rfl)
          (try simp only [Act.put, List.setIfInBounds_toArray, List.set_cons_zero, List.set_cons_succ])
          refine lateT_take (i := 9) (oi := _) (v := ?_) [22] rfl (by kernel_rfl) (by kernel_rfl) (by kernel_rfl) (by kernel_rfl) (fun _ _ _ h => h) (Or.inl ⟨by rfl, ?hy⟩) hS0 ?_
          case hy => (intro w hSw; (try dsimp only at hSw); go_simp <;> with_reducible rfl)
          (try simp only [Act.put, List.setIfInBounds_toArray, List.set_cons_zero, List.set_cons_succ])
          refine lateT_take (i := 10) (oi := _) (v := ?_) [22] rfl (by kernel_rfl) (by kernel_rfl) (by kernel_rfl) (by kernel_rfl) (fun _ _ _ h => h) (Or.inl ⟨by rfl, ?hy⟩) hS0 ?_
          case hy => (intro w hSw; (try dsimp only at hSw); go_simp <;> with_reducible rfl)
          (try simp only [Act.put, List.setIfInBounds_toArray, List.set_cons_zero, List.set_cons_succ])
          refine lateT_take (i := 11) (oi := _) (v := ?_) [22] rfl (by kernel_rfl) (by kernel_rfl) (by kernel_rfl) (by kernel_rfl) (fun _ _ _ h => h) (Or.inl ⟨by rfl, ?hy⟩) hS0 ?_
          case hy => (intro w hSw; (try dsimp only at hSw); go_simp <;> with_reducible rfl)
          (try simp only [Act.put, List.setIfInBounds_toArray, List.set_cons_zero, List.set_cons_succ])
          refine lateT_take (i := 12) (oi := _) (v := ?_) [22] rfl (by kernel_rfl) (by kernel_rfl) (by kernel_rfl) (by kernel_rfl) (fun _ _ _ h => h) (Or.inl ⟨by rfl, ?hy⟩) hS0 ?_
          case hy => (intro w hSw; (try dsimp only at hSw); go_simp <;> with_reducible rfl)
          (try simp only [Act.put, List.setIfInBounds_toArray, List.set_cons_zero, List.set_cons_succ])
          refine lateT_take (i := 13) (oi := _) (v := ?_) [22] rfl (by kernel_rfl) (by kernel_rfl) (by kernel_rfl) (by kernel_rfl) (fun _ _ _ h => h) (Or.inl ⟨by rfl, ?hy⟩) hS0 ?_
          case hy => (intro w hSw; (try dsimp only at hSw); go_simp <;> with_reducible rfl)
          (try simp only [Act.put, List.setIfInBounds_toArray, List.set_cons_zero, List.set_cons_succ])
          refine lateT_take (i := 14) (oi := _) (v := ?_) [22] rfl (by kernel_rfl) (by kernel_rfl) (by kernel_rfl) (by kernel_rfl) (fun _ _ _ h => h) (Or.inl ⟨by rfl, ?hy⟩) hS0 ?_
          case hy => (intro w hSw; (try dsimp only at hSw); go_simp <;> with_reducible rfl)
          (try simp only [Act.put, List.setIfInBounds_toArray, List.set_cons_zero, List.set_cons_succ])
          refine lateT_take (i := 15) (oi := _) (v := ?_) [22] rfl (by kernel_rfl) (by kernel_rfl) (by kernel_rfl) (by kernel_rfl) (fun _ _ _ h => h) (Or.inl ⟨by rfl, ?hy⟩) hS0 ?_
          case hy => (intro w hSw; (try dsimp only at hSw); go_simp <;> with_reducible rfl)
          (try simp only [Act.put, List.setIfInBounds_toArray, List.set_cons_zero, List.set_cons_succ])
          refine lateT_take (i := 16) (oi := _) (v := ?_) [22] rfl (by kernel_rfl) (by kernel_rfl) (by kernel_rfl) (by kernel_rfl) (fun _ _ _ h => h) (Or.inl ⟨by rfl, ?hy⟩) hS0 ?_
          case hy => (intro w hSw; (try dsimp only at hSw); go_simp <;> with_reducible rfl)
          (try simp only [Act.put, List.setIfInBounds_toArray, List.set_cons_zero, List.set_cons_succ])
          refine lateT_take (i := 17) (oi := _) (v := ?_) [22] rfl (by kernel_rfl) (by kernel_rfl) (by kernel_rfl) (by kernel_rfl) (fun _ _ _ h => h) (Or.inl ⟨by rfl, ?hy⟩) hS0 ?_
          case hy => (intro w hSw; (try dsimp only at hSw); go_simp <;> with_reducible rfl)
          (try simp only [Act.put, List.setIfInBounds_toArray, List.set_cons_zero, List.set_cons_succ])
          refine lateT_take (i := 18) (oi := _) (v := ?_) [22] rfl (by kernel_rfl) (by kernel_rfl) (by kernel_rfl) (by kernel_rfl) (fun _ _ _ h => h) (Or.inl ⟨by rfl, ?hy⟩) hS0 ?_
          case hy => (intro w hSw; (try dsimp only at hSw); go_simp <;> with_reducible rfl)
          (try simp only [Act.put, List.setIfInBounds_toArray, List.set_cons_zero, List.set_cons_succ])
          refine lateT_step (i := 19) (by kernel_rfl) rfl (fun K hK => ?_)
          go_simp
          refine hK.out _ _ (fun _ => ⟨a0, a1, a2, a3, a4, a5⟩) ?_
          clear hK K
          (try simp only [Act.put, List.setIfInBounds_toArray, List.set_cons_zero, List.set_cons_succ])
          refine lateT_step (i := 20) (by kernel_rfl) rfl (fun K hK => ?_)
          refine step_appL (m := 1) (d := 1) (by rfl) (.tmp 46) (.tmp 58) (by rfl) hEi.out flat_iv (by go_simp) hOa.out (by go_simp) hlit.out hsz hza ?_
          intro A7 c7 w7 hown7 hgr7 hb7 hat7
          have d0 := grown_cell9 hgr7 m0 v0 a0
          have d1 := grown_cell9 hgr7 m0 v0 a1
          have d2 := grown_cell9 hgr7 m0 v0 a2
          have d3 := grown_cell9 hgr7 m1 v1 a3
          have d4 := grown_cell9 hgr7 m2 v2 a4
          have d5 := grown_cell9 hgr7 m3 v3 a5
          have df := grown_frozen9 hgr7 m2 v2 hfz
          refine hK.out _ _ (fun _ => ⟨d0, d1, d2, d3, d4, d5⟩) ?_
          clear hK K
          (try simp only [Act.put, List.setIfInBounds_toArray, List.set_cons_zero, List.set_cons_succ])
          refine lateT_step (i := 21) (by kernel_rfl) rfl (fun K hK => ?_)
          go_simp
          refine hK.out _ _ (fun _ => ⟨d0, d1, d2, d3, d4, d5⟩) ?_
          clear hK K
          (try simp only [Act.put, List.setIfInBounds_toArray, List.set_cons_zero, List.set_cons_succ])
          refine lateT_step (i := 22) (by kernel_rfl) rfl (fun K hK => ?_)
          go_simp
          refine hK.out _ _ (fun h => absurd rfl h) ?_
          clear hK K
          (try simp only [Act.put, List.setIfInBounds_toArray, List.set_cons_zero, List.set_cons_succ])
          refine lateT_done (by kernel_rfl) ?_ _
          have hM7 := hide (hpushM.out A7 c7 w7 hown7 hgr7 hat7)
          have hb7' := hide ((hbelA.out.grown hgr7 (by omega) (fun q e => by have := (hOa.out.lt q e).1; omega)).setCell (p := ⟨bs, f, none⟩) (Nat.le_refl _) (.slice A7 (rn + 1) c7))
          have hR7 := hide (hR2.out A7 c7)
          clear hpushM hR2 hbelA hgr7 hb7 hat7 hown7
          go_wp2_with fail
          go_roundw
          case rel => exact ⟨k + 1, _, by omega, by go_num, hM7.out, hR7.out, hb7'.out⟩
          case measure => simp [intOf]; omega
        · obtain rfl : k = n3 := by omega
          have k1 : ¬ (k : Int) < (k : Int) := by omega
          obtain ⟨n3, rfl⟩ : ∃ n3, n3 = k := ⟨_, rfl⟩
          obtain ⟨wS, rfl⟩ : ∃ wS : World, wS = wr := ⟨_, rfl⟩
          obtain ⟨RS, rfl⟩ : ∃ RS, RS = R := ⟨_, rfl⟩
          have hRS : Hid (RowsAre RS N (cdL es N p)) := by
            have := hR.out
            rw [List.take_of_length_le (by rw [hl3]; exact Nat.le_refl _)] at this
            exact this
          have hMK := hide (hM.out.below (hbS.out.mono hbsK2))
          have hKb : Hid (∀ (i : Nat) (r : Hd × List Int), RK[i]? = some r → ∀ g, (Value.slice r.1.1 r.1.2.1 r.1.2.2).ownBlock = some g → g < bs ∨ wS.heap.size ≤ g) := fun i r hr g hg => .inl (by have := ((hM.out.rows i r hr).lt g hg).2; omega)
          have hbw := hide (hb.out.trans (hbS.out.mono (by omega)))
          have hbsS : bs < wS.heap.size := hMS.out.lt
          have hMS0 := hide hMS.out
          clear hR hM hb k1
          go_wp2_with fail
          go_loopw [64] (fun i wr => ∃ (k : Nat) (R : List (Hd × List Int)), k ≤ N ∧ i = .int .i64 (k : Nat) ∧ Hid (BackM wr bk (bk + 1) R) ∧ Hid (RowsAre R N fun j => if j < k then keyR es N p j else [(p[j]?).getD 0]) ∧ Hid (∀ (i : Nat) (r : Hd × List Int), R[i]? = some r → ∀ g, (Value.slice r.1.1 r.1.2.1 r.1.2.2).ownBlock = some g → g < bs ∨ wS.heap.size ≤ g) ∧ Hid (Below bk w1 wr) ∧ wS.heap.size ≤ wr.heap.size ∧ Hid (∀ b, bs ≤ b → b < wS.heap.size → (∀ (i : Nat) (r : Hd × List Int), i < k → RS[i]? = some r → (Value.slice r.1.1 r.1.2.1 r.1.2.2).ownBlock ≠ some b) → wr.heap[b]? = wS.heap[b]?)) (fun i _ => N - (intOf i).toNat)
          case atStart => exact ⟨0, RK, Nat.zero_le _, rfl, hMK.out, ⟨hRK.out.1, fun j r hr => (hRK.out.2 j r hr).trans (if_neg (Nat.not_lt_zero j)).symm⟩, hKb.out, hbw.out, Nat.le_refl _, fun b _ _ _ => rfl⟩
          case round =>
            clear hMK hKb hbw
            obtain ⟨k, R, hk, rfl, hM, hR, hKb, hb, hzS, hkeep⟩ := hrel
            by_cases hlt : k < N
            · have k0 : (0 : Int) ≤ (k : Int) := by omega
              have k1 : (k : Int) < (N : Int) := by omega
              obtain ⟨⟨⟨sA, sn, sc⟩, sl⟩, hsr⟩ : ∃ r, RS[k]? = some r := ⟨_, List.getElem?_eq_getElem (by rw [hRS.out.1]; exact hlt)⟩
              obtain ⟨⟨⟨kA, kn, kc⟩, kl⟩, hkr⟩ : ∃ r, R[k]? = some r := ⟨_, List.getElem?_eq_getElem (by rw [hR.out.1]; exact hlt)⟩
              have hsl : sl = cdL es N p k := hRS.out.2 k _ hsr
              have hkl : kl = [(p[k]?).getD 0] := (hR.out.2 k _ hkr).trans (if_neg (Nat.lt_irrefl k))
              have hOS := hMS0.out.rows k _ hsr
              have hsn : sl.length = sn := hOS.len
              have hsn2 : sn ≤ n3 := by rw [← hsn, hsl, ← hl3]; exact cdL_len _ _ _ _
              obtain rfl : kn = 1 := by have := (hM.out.rows k _ hkr).len; rw [hkl] at this; exact this.symm
              have hbsame : wr.heap[bs]? = wS.heap[bs]? := hkeep.out bs (Nat.le_refl _) hbsS fun i r _ hr e => by
                have := ((hMS0.out.rows i r hr).lt bs e).1
                omega
              have hcs : wr.cell? ⟨bs, k, none⟩ = some (.slice sA sn sc) := (World.cell?_of_block (w := wS) (by simpa using hbsame)).trans (hMS0.out.cell hsr).1
              have hOr : Own 1 iv wr (bs + 1) 2 sA sn sc sl := hOS.keep fun g hg => hkeep.out g (by have := (hOS.lt g hg).1; omega) (hOS.lt g hg).2 fun i r hi hr e => by
                rcases hMS0.out.apart i k r _ (by omega) hr hsr with h1 | h1
                · rw [e] at h1; cases h1
                · exact h1 (e.trans hg.symm)
              have hown : ∀ g, (Value.slice sA sn sc).ownBlock = some g → bs + 1 ≤ g ∧ g < wS.heap.size := fun g hg => hOS.lt g hg
              have qS := hide (sortI_calls hOr (by omega))
              have hkeepK : Hid (∀ (W W' : World), BackM W bk (bk + 1) R → wr.heap.size ≤ W.heap.size → W.grownBy W' (Value.slice sA sn sc).ownBlock → BackM W' bk (bk + 1) R) := fun W W' hMW hzW hg => hMW.keepR (hg.block bk hMW.lt fun e => by have := (hown bk e.symm).1; omega) fun i r hr g hgg => hg.block g ((hMW.rows i r hr).lt g hgg).2 fun e => by
                have h1 := hown g e.symm
                rcases hKb.out i r hr g hgg with h2 | h2 <;> omega
              clear hOS
              replace hsl := hide hsl
              replace hkl := hide hkl
              go_upto_region 16 with fail
              clear hcs
              go_wp2_with fail
              refine qS.out.mono ?_
              rintro e w5 ⟨rfl, hO5, hg5⟩
              have hM5 := hkeepK.out wr w5 hM.out (Nat.le_refl _) hg5
              obtain ⟨wD, hwD⟩ : ∃ wD, wD = w5.drew := ⟨_, rfl⟩
              have hMD : BackM wD bk (bk + 1) R := by rw [hwD]; exact ⟨hM5.outer, hM5.rows, hM5.apart⟩
              have hOD : Own 1 iv wD (bs + 1) 2 sA sn sc (sortI sl) := by rw [hwD]; exact hO5
              have hzD : wD.heap.size = w5.heap.size := by rw [hwD]; rfl
              have hz5 := hg5.size
              have hgD : wr.grownBy wD (Value.slice sA sn sc).ownBlock := by rw [hwD]; exact ⟨hg5.os, hg5.tape, hg5.output, hg5.size, hg5.block⟩
              have c5 := (hMD.cell hkr).1
              have qC := hide (compactI_calls (w := wD) hOD (by omega))
              have hMDk := hide (fun (w6 : World) (hg : wD.grownBy w6 (Value.slice sA sn sc).ownBlock) => hkeepK.out wD w6 hMD (by omega) hg)
              have hcl := compact_len (sortI sl)
              rw [sortI_len, hsn] at hcl
              have hsz : (1 + (Lib.compact (sortI sl)).length) * 8 ≤ 140737488355328 := by omega
              have hKbk := hide (fun g (hg : (Value.slice kA 1 kc).ownBlock = some g) => hKb.out k _ hkr g hg)
              go_upto_region 17 with fail
              replace hwD := hide hwD
              replace hgD := hide hgD
              clear hO5 hg5 hM5 qS hOr hOD hMD
              refine lateT_begin (S := fun w' => w'.cell? ⟨bk, k, none⟩ = some (.slice kA 1 kc)) (st := 10) (by kernel_rfl) ?_
              rw [← show wD = _ from hwD.out]
              have hS0 : (fun w' : World => w'.cell? ⟨bk, k, none⟩ = some (.slice kA 1 kc)) wD := c5
              refine lateT_take (i := 0) (oi := _) (v := ?_) [10] rfl (by kernel_rfl) (by kernel_rfl) (by kernel_rfl) (by kernel_rfl) (fun _ _ _ h => h) (Or.inl ⟨by rfl, ?hy⟩) hS0 ?_
              case hy => (intro w hSw; (try dsimp only at hSw); go_simp <;> with_reducible rfl)
              (try simp only [Act.put, List.setIfInBounds_toArray, List.set_cons_zero, List.set_cons_succ])
              refine lateT_take (i := 1) (oi := _) (v := ?_) [10] rfl (by kernel_rfl) (by kernel_rfl) (by kernel_rfl) (by kernel_rfl) (fun _ _ _ h => h) (Or.inl ⟨by rfl, ?hy⟩) hS0 ?_
              case hy => (intro w hSw; (try dsimp only at hSw); go_simp <;> with_reducible rfl)
              (try simp only [Act.put, List.setIfInBounds_toArray, List.set_cons_zero, List.set_cons_succ])
              refine lateT_take (i := 2) (oi := _) (v := ?_) [10] rfl (by kernel_rfl) (by kernel_rfl) (by kernel_rfl) (by kernel_rfl) (fun _ _ _ h => h) (Or.inl ⟨by rfl, ?hy⟩) hS0 ?_
              case hy => (intro w hSw; (try dsimp only at hSw); go_simp <;> with_reducible rfl)
              (try simp only [Act.put, List.setIfInBounds_toArray, List.set_cons_zero, List.set_cons_succ])
              refine lateT_take (i := 3) (oi := _) (v := ?_) [10] rfl (by kernel_rfl) (by kernel_rfl) (by kernel_rfl) (by kernel_rfl) (fun _ _ _ h => h) (Or.inl ⟨by rfl, ?hy⟩) hS0 ?_
              case hy => (intro w hSw; (try dsimp only at hSw); go_simp <;> with_reducible rfl)
              (try simp only [Act.put, List.setIfInBounds_toArray, List.set_cons_zero, List.set_cons_succ])
              refine lateT_take (i := 4) (oi := _) (v := ?_) [10] rfl (by kernel_rfl) (by kernel_rfl) (by kernel_rfl) (by kernel_rfl) (fun _ _ _ h => h) (Or.inl ⟨by rfl, ?hy⟩) hS0 ?_
              case hy => (intro w hSw; (try dsimp only at hSw); go_simp <;> with_reducible rfl)
              (try simp only [Act.put, List.setIfInBounds_toArray, List.set_cons_zero, List.set_cons_succ])
              refine lateT_take (i := 5) (oi := _) (v := ?_) [10] rfl (by kernel_rfl) (by kernel_rfl) (by kernel_rfl) (by kernel_rfl) (fun _ _ _ h => h) (Or.inl ⟨by rfl, ?hy⟩) hS0 ?_
              case hy => (intro w hSw; (try dsimp only at hSw); go_simp <;> with_reducible rfl)
              (try simp only [Act.put, List.setIfInBounds_toArray, List.set_cons_zero, List.set_cons_succ])
              refine lateT_take (i := 6) (oi := _) (v := ?_) [10] rfl (by kernel_rfl) (by kernel_rfl) (by kernel_rfl) (by kernel_rfl) (fun _ _ _ h => h) (Or.inl ⟨by rfl, ?hy⟩) hS0 ?_
              case hy => (intro w hSw; (try dsimp only at hSw); go_simp <;> with_reducible rfl)
              (try simp only [Act.put, List.setIfInBounds_toArray, List.set_cons_zero, List.set_cons_succ])
              refine lateT_step (i := 7) (by kernel_rfl) rfl (fun K hK => ?_)
              go_simp
              go_at_call 161
              refine qC.out.mono ?_
              rintro e w6 ⟨rfl, hO6, hg6⟩
              have hM6 := hMDk.out w6 hg6
              have c6 := (hM6.cell hkr).1
              have hfz6 := (hM6.cell hkr).2
              have hOk6 := hide (hM6.rows k _ hkr)
              have hlit := hide (hO6.sl flat_iv)
              have hz6 := hg6.size
              have hza : bk + 1 ≤ w6.heap.size := hM6.lt
              go_wp2_with fail
              refine hK.out _ _ (fun _ => c6) ?_
              clear hK K
              (try simp only [Act.put, List.setIfInBounds_toArray, List.set_cons_zero, List.set_cons_succ])
              refine lateT_step (i := 8) (by kernel_rfl) rfl (fun K hK => ?_)
              refine step_appL (m := (Lib.compact (sortI sl)).length) (d := sc) (by rfl) (.tmp 76) (.tmp 78) (by rfl) hEi.out flat_iv (by go_simp) hOk6.out (by go_simp) hlit.out hsz hza ?_
              intro A7 c7v w7 hown7 hgr7 hb7 hat7
              have hnb : some bk ≠ (Value.slice kA 1 kc).ownBlock := fun e => by
                have := (hOk6.out.lt bk e.symm).1
                omega
              have c7 := grown_cell9 hgr7 (by omega) hnb c6
              have df := grown_frozen9 hgr7 (by omega) hnb hfz6
              refine hK.out _ _ (fun _ => c7) ?_
              clear hK K
              (try simp only [Act.put, List.setIfInBounds_toArray, List.set_cons_zero, List.set_cons_succ])
              refine lateT_step (i := 9) (by kernel_rfl) rfl (fun K hK => ?_)
              go_simp
              refine hK.out _ _ (fun _ => c7) ?_
              clear hK K
              (try simp only [Act.put, List.setIfInBounds_toArray, List.set_cons_zero, List.set_cons_succ])
              refine lateT_step (i := 10) (by kernel_rfl) rfl (fun K hK => ?_)
              go_simp
              refine hK.out _ _ (fun h => absurd rfl h) ?_
              clear hK K
              (try simp only [Act.put, List.setIfInBounds_toArray, List.set_cons_zero, List.set_cons_succ])
              refine lateT_done (by kernel_rfl) ?_ _
              have hM8 := hide (hM6.push (Nat.lt_succ_self _) hza hkr hown7 hgr7 hat7)
              have hval : kl ++ Lib.compact (sortI sl) = keyR es N p k := by rw [hkl.out, hsl.out]; rfl
              have hR8 : Hid (RowsAre (R.set k ((A7, 1 + (Lib.compact (sortI sl)).length, c7v), kl ++ Lib.compact (sortI sl))) N fun j => if j < k + 1 then keyR es N p j else [(p[j]?).getD 0]) := hR.out.set hlt (by show kl ++ _ = _; rw [if_pos (by omega)]; exact hval) fun j hj _ => by
                by_cases e : j < k
                · rw [if_pos e, if_pos (by omega)]
                · rw [if_neg e, if_neg (by omega)]
              have hKb8 : Hid (∀ (i : Nat) (r : Hd × List Int), (R.set k ((A7, 1 + (Lib.compact (sortI sl)).length, c7v), kl ++ Lib.compact (sortI sl)))[i]? = some r → ∀ g, (Value.slice r.1.1 r.1.2.1 r.1.2.2).ownBlock = some g → g < bs ∨ wS.heap.size ≤ g) := fun i r hr g hg => by
                by_cases e : k = i
                · subst e
                  rw [List.getElem?_set_self (by rw [hR.out.1]; exact hlt)] at hr
                  cases hr
                  (try dsimp only at hg)
                  rcases hat7 with h1 | h1
                  · exact hKbk.out g (h1.symm.trans hg)
                  · rw [h1] at hg
                    injection hg with hg
                    right; omega
                · rw [List.getElem?_set_ne e] at hr
                  exact hKb.out i r hr g hg
              have hb8 := hide (((((hb.out.grown hgD.out (by omega) (fun q e => by have := (hown q e).1; omega)).grown hg6 (by omega) (fun q e => by have := (hown q e).1; omega)).grown hgr7 (by omega) (fun q e => by have := (hOk6.out.lt q e).1; omega)).setCell (p := ⟨bk, k, none⟩) (Nat.le_refl _) (.slice A7 (1 + (Lib.compact (sortI sl)).length) c7v)))
              have hz7 := hgr7.size
              have hzS8 : wS.heap.size ≤ (w7.setCell ⟨bk, k, none⟩ (.slice A7 (1 + (Lib.compact (sortI sl)).length) c7v)).heap.size := by rw [World.size_setCell]; omega
              have hkeep8 : Hid (∀ b, bs ≤ b → b < wS.heap.size → (∀ (i : Nat) (r : Hd × List Int), i < k + 1 → RS[i]? = some r → (Value.slice r.1.1 r.1.2.1 r.1.2.2).ownBlock ≠ some b) → (w7.setCell ⟨bk, k, none⟩ (.slice A7 (1 + (Lib.compact (sortI sl)).length) c7v)).heap[b]? = wS.heap[b]?) := fun b h1 h2 h3 => by
                have hnk := h3 k _ (by omega) hsr
                rw [Below.heap_setCell _ _ _ _ (show b ≠ bk by omega), hgr7.block b (by omega) (fun e => by
                  rcases hKbk.out b e.symm with h4 | h4 <;> omega), hg6.block b (by omega) (fun e => hnk e.symm), hgD.out.block b (by omega) (fun e => hnk e.symm)]
                exact hkeep.out b h1 h2 fun i r hi hr => h3 i r (by omega) hr
              replace hM6 := hide hM6
              replace hO6 := hide hO6
              replace hg6 := hide hg6
              clear hown7 hgr7 hb7 hat7 hR hM hb hkeep hKb hKbk hkeepK
              replace hval := hide hval
              replace hkr := hide hkr
              replace hsr := hide hsr
              go_wp2_with fail
              go_roundw
              case rel => exact ⟨k + 1, _, by omega, by go_num, hM8.out, hR8.out, hKb8.out, hb8.out, hzS8, hkeep8.out⟩
              case measure => simp [intOf]; omega
            · obtain rfl : k = N := by omega
              have k1 : ¬ (k : Int) < (k : Int) := by omega
              have hmap : R.map (·.2) = keysR es k p := by
                rw [hR.out.map]
                unfold keysR
                exact List.map_congr_left fun j hj => by rw [if_pos (List.mem_range.1 hj)]
              have hrows := hM.out.rowsI fun i r hr => by
                have h1 : r.2 = keyR es k p i := (hR.out.2 i r hr).trans (if_pos (by have := (List.getElem?_eq_some_iff.1 hr).1; rw [hR.out.1] at this; exact this))
                rw [h1]
                have := keyR_len es k p i
                omega
              rw [hR.out.1] at hrows
              have qN := normalKeys_calls (some ⟨bk, 0, none⟩) k k R wr _ _ hrows (by omega) (Nat.le_refl _)
              rw [hmap] at qN
              replace qN := hide qN
              have hbF := hide (hb1.out.trans (hb.out.mono (by omega)))
              have hzF := hbF.out.size
              clear hrows hmap hM hR hKb hb hkeep hMS hMS0 hRS
              go_wp2_with fail
              refine qN.out.mono ?_
              rintro e w9 ⟨B, rfl, hB, hb9⟩
              have hB9 := hide (hB.more hzF (Nat.le_refl _))
              replace hb9 := hide (hbF.out.trans (hb9.mono hzF))
              clear qN
              go_wp2_with fail
              go_ret
              exact ⟨B, rfl, hB9.out, hb9.out⟩

end Go.Proofs.YtnhomkmfbngmgaaGreatDoor

namespace Go.Proofs.YtnhomkmfbngmgaaGreatDoor
open Go.ChangeShapes Go.WideShapes Go.ChangeAt Go.RowKit
set_option linter.unusedVariables false
set_option linter.unusedSimpArgs false

theorem made_zeroP (w : World) (n : Nat) : SlI (w.alloc (.cells (madeCells #[.int .i64 0] n) 2)) w.heap.size (w.heap.size + 1) (some ⟨w.heap.size, 0, none⟩) n (zeroP n) := by
  refine ⟨by simp [zeroP], fun hn => ⟨w.heap.size, 0, rfl, Nat.le_refl _, Nat.lt_succ_self _, by simp, fun k x hx j u hu => ?_⟩⟩
  have hk : k < n := by have := (List.getElem?_eq_some_iff.1 hx).1; simpa [zeroP] using this
  have hx0 : x = 0 := by
    unfold zeroP at hx
    rw [List.getElem?_replicate, if_pos hk] at hx
    exact (Option.some.inj hx).symm
  subst hx0
  have hj : j = 0 := by
    have := (List.getElem?_eq_some_iff.1 hu).1
    simp [iv] at this
    exact this
  subst hj
  simp [iv] at hu
  subst hu
  have hg := heap_alloc_new w (.cells (madeCells #[.int .i64 0] n) 2)
  refine ⟨(cell_of_row _ _ _ _ _ (0, 0) hg).trans ?_, frozen_of_row _ _ _ _ _ hg⟩
  simp [madeCells, Value.cells, hk, Nat.mod_one]

set_option maxRecDepth 100000 in
theorem single_calls (N : Nat) (hN : N ≤ 1048576) (w : World) :
    Calls Tryz.prog 230 #[.int .i64 (N : Int)] w fun e w' => e = .returned (.slice (some ⟨w.heap.size, 0, none⟩) N N) ∧ SlI w' w.heap.size w'.heap.size (some ⟨w.heap.size, 0, none⟩) N (zeroP N) ∧ Below w.heap.size w w' := by
  have hmk := run_make_int N hN
  go_enter Tryz.func230, Tryz.ntmps230
  go_wp2_with fail
  go_ret
  exact ⟨rfl, (made_zeroP w N).more (Nat.le_refl _) (by rw [World.size_alloc]; exact Nat.le_refl _), (Below.refl _ _).alloc (Nat.le_refl _) _⟩

/-- What a function answers that gives the next partition. -/
def NextOk (es : List Ed) (N : Nat) (F : FuncId) (pre : Array Value) (w : World) : Prop :=
  ∀ (k : Nat) (A : Option Addr) (c : Nat) (W : World) (lo hi : Nat), Below w.heap.size w W → SlI W lo hi A N (rndP es N k) →
    Calls Tryz.prog F (pre.push (.slice A N c)) W fun e W' => ∃ B c', e = .returned (.slice B N c') ∧ SlI W' W.heap.size W'.heap.size B N (rndP es N (k + 1)) ∧ Below W.heap.size W W' ∧ N ≤ c'
/-- The partitions so far. -/
structure RouW (w wr : World) (es : List Ed) (N : Nat) (j : Nat) (A : Option Addr) (c : Nat) (R : List (HI × List Int)) : Prop where
  grow : GrowI wr w.heap.size N A (j + 1) c R
  vals : R.map (·.2) = (List.range (j + 1)).map (rndP es N)
  new : ∀ m, m < j → rndP es N (m + 1) ≠ rndP es N m
  below : Below w.heap.size w wr
  caps : ∀ r, r ∈ R → N ≤ r.1.2
def lenV9 (v : Value) : Nat := match v with | .slice _ n _ => n | _ => 0
set_option maxRecDepth 100000 in
set_option maxHeartbeats 6400000 in
theorem rounds_calls (es : List Ed) (N : Nat) (hN1 : 1 ≤ N) (hN : N ≤ 40) (he : EdIn N es) (F : FuncId) (pre : Array Value) (w : World) (hnext : NextOk es N F pre w)
    (hF : ∀ (v : Value) (W : World), Sem.run Tryz.prog (callFunc F (pre.push v)) W = .ok (.enter F (pre.push v)) W) :
    Calls Tryz.prog 139 #[.int .i64 (N : Int), .func (.func F) pre #[]] w fun e w' => ∃ r A c R, e = .returned (.slice A (r + 1) c) ∧ LastR es N r ∧ RouW w w' es N r A c R := by
  have hER := hide elem_rowI
  have hS := hide (single_calls N (by omega) w)
  replace hnext := hide hnext
  replace he := hide he
  go_enter Tryz.func139, Tryz.ntmps139
  go_wp2_with fail
  refine hS.out.mono ?_
  rintro e w3 ⟨rfl, hs3, hb3⟩
  have hz3 := hb3.size
  have hbl : Below w3.heap.size w3 (w3.alloc (.cells #[.slice (some ⟨w.heap.size, 0, none⟩) N N] 32)) := (Below.refl _ _).alloc (Nat.le_refl _) _
  have hstart : Hid (RouW w (w3.alloc (.cells #[.slice (some ⟨w.heap.size, 0, none⟩) N N] 32)) es N 0 (some ⟨w3.heap.size, 0, none⟩) 1 [((some ⟨w.heap.size, 0, none⟩, N), zeroP N)]) :=
    ⟨GrowI.one hs3 hz3, rfl, fun i hi => absurd hi (by omega), hb3.trans (hbl.mono hz3), fun r hr => by obtain rfl := List.mem_singleton.1 hr; exact Nat.le_refl _⟩
  clear hS hs3 hbl
  go_wp2_with fail
  go_loopw [5] (fun o wr => ∃ (j : Nat) (A : Option Addr) (c : Nat) (R : List (HI × List Int)), j + 1 ≤ N ∧ o = .slice A (j + 1) c ∧ Hid (RouW w wr es N j A c R)) (fun o _ => N + 2 - lenV9 o)
  case atStart => exact ⟨0, _, _, _, hN1, rfl, hstart⟩
  case round =>
    clear hstart
    obtain ⟨j, A, c, R, hj, rfl, hR⟩ := hrel
    obtain ⟨bo, oo, Ah, ch, s, rfl, go1, go2, hrj, co, hsj, hoff⟩ := hR.out.grow.get (show j < j + 1 by omega)
    have hs : s = rndP es N j := by
      have h1 : (R.map (·.2))[j]? = some s := by rw [List.getElem?_map, hrj]; rfl
      rw [hR.out.vals, List.getElem?_map, List.getElem?_range (by omega)] at h1
      exact (Option.some.inj h1).symm
    subst hs
    have hwr := hR.out.below
    have qY := hide (hnext.out j Ah ch wr _ _ hwr hsj)
    have hzr := hwr.size
    have hi1 : IntKind.i64.wrap (((j + 1 : Nat) : Int) - 1) = (j : Int) := by rw [IntWalk.i64_in _ (by omega)]; omega
    have hi2 : ((j + 1 : Nat) : Int) - 1 = (j : Int) := by omega
    have hj0 : (0 : Int) ≤ (j : Int) := by omega
    have hj1 : (j : Int) < ((j + 1 : Nat) : Int) := by omega
    replace hsj := hide hsj
    clear hoff hwr
    go_upto_region 3 with fail
    go_wp2_with fail
    refine qY.out.mono ?_
    rintro e w4 ⟨A4, c4, rfl, hs4, hb4, hc4⟩
    have hG4 := hide (hR.out.grow.below hb4)
    have hz4 := hb4.size
    have hsj4 := hide (hsj.out.below hb4 (.inr (Nat.le_refl _)))
    have qE := equalI_calls Ah A4 N N ch c4 _ _ w4 _ _ _ _ hsj4.out hs4 (by omega) (by omega)
    replace hs4 := hide hs4
    replace hb4 := hide hb4
    clear co qY hi1 hi2 hj0 hj1
    by_cases heq : rndP es N j = rndP es N (j + 1)
    · rw [decide_eq_true heq] at qE
      replace qE := hide qE
      replace heq := hide heq
      go_wp2_with fail
      refine qE.out.mono ?_
      rintro e w5 ⟨rfl, hb5⟩
      go_wp2_with fail
      go_ret
      exact ⟨j, _, _, R, rfl, ⟨heq.out.symm, hR.out.new⟩, ⟨hG4.out.below hb5, hR.out.vals, hR.out.new, hR.out.below.trans ((hb4.out.trans (hb5.mono hz4)).mono hzr), hR.out.caps⟩⟩
    · rw [decide_eq_false heq] at qE
      replace qE := hide qE
      have hnew : Hid (∀ m, m < j + 1 → rndP es N (m + 1) ≠ rndP es N m) := fun m hm => by
        by_cases e : m < j
        · exact hR.out.new m e
        · obtain rfl : m = j := by omega
          exact fun h => heq h.symm
      have hjN : j + 1 + 1 ≤ N := rnd_bound he.out hN1 hnew.out
      clear heq
      go_wp2_with fail
      refine qE.out.mono ?_
      rintro e w5 ⟨rfl, hb5⟩
      have hG5 := hide (hG4.out.below hb5)
      have hz5 := hb5.size
      have hza : w.heap.size ≤ (w5.alloc (.cells #[.slice A4 N c4] 32)).heap.size := by rw [World.size_alloc]; omega
      have hOa := hide (hG5.out.own.alloc (.cells #[.slice A4 N c4] 32))
      replace hb5 := hide hb5
      clear qE
      go_wp2_with (first | (at_builtin; (with_reducible refine wpList_app rfl (.tmp 24) (.tmp 26) rfl hER.out (flat_hiV N) rfl hOa.out rfl (Sl.lit1' w5 32 ((A4, c4) : HI) _ rfl 1 _ ?c0) ?c1 hza ?_); rotate_right; intro A6 c6 w6 hown6 hgr6 hb6 hat6))
      case c0 => rfl
      case c1 => omega
      have hbA : Below w5.heap.size w5 (w5.alloc (.cells #[.slice A4 N c4] 32)) := (Below.refl _ _).alloc (Nat.le_refl _) _
      have hb45 : Below w4.heap.size w4 (w5.alloc (.cells #[.slice A4 N c4] 32)) := hb5.out.trans (hbA.mono hz5)
      have hG6 := (hG5.out.below hbA).push ((hs4.out.below hb45 (.inr (Nat.le_refl _))).more hzr hb45.size) (fun b' off' hN0 e e2 => by
        obtain ⟨b2, o2, e3, g1, -⟩ := hs4.out.at_ hN0
        rw [e] at e3
        cases e3
        have := (hR.out.grow.own.lt _ e2).2
        omega) hown6 hgr6 hat6
      have hBel : Below w.heap.size w w6 := hR.out.below.trans ((hb4.out.mono hzr).trans ((hb45.mono (by omega)).trans hb6))
      have hR6 : Hid (RouW w w6 es N (j + 1) A6 c6 (R ++ [((A4, c4), rndP es N (j + 1))])) :=
        ⟨hG6, by rw [List.map_append, hR.out.vals, List.range_succ (n := j + 1), List.map_append]; rfl, hnew.out, hBel, fun r hr => by
          rcases List.mem_append.1 hr with hr | hr
          · exact hR.out.caps r hr
          · obtain rfl := List.mem_singleton.1 hr; exact hc4⟩
      go_wp2_with fail
      go_roundw
      case rel => exact ⟨j + 1, A6, c6, _, hjN, rfl, hR6⟩
      case measure => simp [lenV9]; omega

set_option maxRecDepth 100000 in
theorem lastR_calls (A : Option Addr) (base N n c : Nat) (R : List (HI × List Int)) (w : World) (h : GrowI w base N A (n + 1) c R) (hn : n ≤ 1048576) {Ah : Option Addr} {ch : Nat} {s : List Int} (hr : R[n]? = some ((Ah, ch), s)) :
    Calls Tryz.prog 138 #[.slice A (n + 1) c] w fun e w' => e = .returned (.slice Ah N ch) ∧ w = w' := by
  obtain ⟨bo, oo, Ah', ch', s', rfl, -, -, hrj, co, -, -⟩ := h.get (show n < n + 1 by omega)
  rw [hr] at hrj
  cases hrj
  have hi1 : IntKind.i64.wrap (((n + 1 : Nat) : Int) - 1) = (n : Int) := by rw [IntWalk.i64_in _ (by omega)]; omega
  have hi2 : ((n + 1 : Nat) : Int) - 1 = (n : Int) := by omega
  have hj0 : (0 : Int) ≤ (n : Int) := by omega
  have hj1 : (n : Int) < ((n + 1 : Nat) : Int) := by omega
  clear h hr
  go_enter Tryz.func138, Tryz.ntmps138
  go_wp2_with fail
  go_ret
  exact ⟨rfl, rfl⟩
end Go.Proofs.YtnhomkmfbngmgaaGreatDoor

namespace Go.Proofs.YtnhomkmfbngmgaaGreatDoor
open Go.ChangeShapes Go.WideShapes Go.ChangeAt Go.RowKit
set_option linter.unusedVariables false
set_option linter.unusedSimpArgs false

section
variable {w : World} {N ini : Nat} {A : Option Addr} {n : Nat} {B : Option Addr} {m : Nat} {ls : List ByteArray} {es : List Ed}
theorem SysA.fewL (h : SysA w N ini A n B m ls es) : ∀ e, e ∈ es → e.2.1 ≤ 1000 := fun e he => by
  have h1 := h.labs e he
  have h2 := h.many
  omega
/-- refine gives the next round. -/
theorem SysA.next (h : SysA w N ini A n B m ls es) (c d : Nat) : NextOk es N 81 #[.agg #[.int .i64 (N : Int), .int .i64 (ini : Int), .slice A n c, .slice B m d]] w := by
  intro k P cP W lo hi hW hP
  have hm := h.many
  have hb := h.bounds
  have hS := h.below hW (Nat.le_refl _)
  have q := refine_calls N ini A n c B m d P cP es (rndP es N k) W _ _ lo hi hS.se hP (by omega) hb.1.1 hb.1.2 h.edges h.fewL (rnd_part k).range
  refine q.mono ?_
  rintro e W' ⟨Bq, rfl, h1, h2⟩
  exact ⟨_, _, rfl, h1, h2, Nat.le_refl _⟩
theorem SysA.rounds (h : SysA w N ini A n B m ls es) (c d : Nat) :
    Calls Tryz.prog 139 #[.int .i64 (N : Int), .func (.func 81) #[.agg #[.int .i64 (N : Int), .int .i64 (ini : Int), .slice A n c, .slice B m d]] #[]] w fun e w' => ∃ r A c R, e = .returned (.slice A (r + 1) c) ∧ LastR es N r ∧ RouW w w' es N r A c R :=
  rounds_calls es N h.bounds.1.1 h.bounds.1.2 h.edges _ _ w (h.next c d) (fun v W => by kernel_rfl)

set_option maxRecDepth 100000 in
set_option maxHeartbeats 1600000 in
theorem strong_calls (h : SysA w N ini A n B m ls es) (c d : Nat) :
    Calls Tryz.prog 64 #[.agg #[.int .i64 (N : Int), .int .i64 (ini : Int), .slice A n c, .slice B m d]] w fun e w' => ∃ r P cP, e = .returned (.slice P N cP) ∧ LastR es N r ∧ SlI w' w.heap.size w'.heap.size P N (rndP es N r) ∧ Below w.heap.size w w' ∧ N ≤ cP := by
  have hB := h.box (c := c) (d := d)
  obtain ⟨w1, hw1⟩ : ∃ w1, w1 = w.alloc (ltsC N ini A n c B m d) := ⟨_, rfl⟩
  rw [← hw1] at hB
  have b0 := hB.box.c0
  have b1 := hB.box.c1
  have b2 := hB.box.c2
  have b3 := hB.box.c3
  have q2 := hide (hB.sys.rounds c d)
  have hbn := hB.sys.bounds
  have hed := hide hB.sys.edges
  have hz1 := hB.bel.size
  replace hB := hide hB
  clear h
  go_enter Tryz.func64, Tryz.ntmps64
  go_upto_region 1 with fail
  rw [← show w1 = w.alloc (.cells #[.int .i64 (N : Int), .int .i64 (ini : Int), .slice A n c, .slice B m d] 27) from hw1]
  replace hw1 := hide hw1
  go_wp2_with fail
  refine q2.out.mono ?_
  rintro e w3 ⟨r, A3, c3, R, rfl, hL, hR⟩
  have hbF := hide (hB.out.bel.trans (hR.below.mono hz1))
  have hr1 := rnd_bound hed.out hbn.1.1 hL.2
  obtain ⟨bo, oo, Ah, ch, s, rfl, go1, go2, hrj, co, hsj, hoff⟩ := hR.grow.get (show r < r + 1 by omega)
  have hs : s = rndP es N r := by
    have h1 : (R.map (·.2))[r]? = some s := by rw [List.getElem?_map, hrj]; rfl
    rw [hR.vals, List.getElem?_map, List.getElem?_range (by omega)] at h1
    exact (Option.some.inj h1).symm
  subst hs
  have q3 := hide (lastR_calls _ _ N r c3 R w3 hR.grow (by omega) hrj)
  have hsF := hide (hsj.more hz1 (Nat.le_refl _))
  have hcap := hide (hR.caps _ (List.mem_of_getElem? hrj))
  replace hL := hide hL
  replace hR := hide hR
  replace hsj := hide hsj
  clear q2 b0 b1 b2 b3 co hrj hoff
  go_wp2_with fail
  refine q3.out.mono ?_
  rintro e w4 ⟨rfl, rfl⟩
  go_wp2_with fail
  go_ret
  exact ⟨r, Ah, ch, rfl, hL.out, hsF.out, hbF.out, hcap.out⟩

set_option maxRecDepth 100000 in
set_option maxHeartbeats 1600000 in
theorem strongClasses_calls (h : SysA w N ini A n B m ls es) (c d : Nat) (he : Env w) :
    Calls Tryz.prog 29 #[.agg #[.int .i64 (N : Int), .int .i64 (ini : Int), .slice A n c, .slice B m d]] w fun e w' => ∃ r P cP, e = .returned (.tuple #[.slice P N cP, .int .i64 0]) ∧ LastR es N r ∧ SlI w' w.heap.size w'.heap.size P N (rndP es N r) ∧ Below w.heap.size w w' ∧ N ≤ cP := by
  have hB := h.box (c := c) (d := d)
  obtain ⟨w1, hw1⟩ : ∃ w1, w1 = w.alloc (ltsC N ini A n c B m d) := ⟨_, rfl⟩
  rw [← hw1] at hB
  have he1 := he.below hB.bel (Nat.le_refl _)
  have q1 := hide (hB.sys.valid c d he1)
  have b0 := hB.box.c0
  have b1 := hB.box.c1
  have b2 := hB.box.c2
  have b3 := hB.box.c3
  replace hB := hide hB
  clear h he he1
  go_enter Tryz.func29, Tryz.ntmps29
  go_upto_region 1 with fail
  rw [← show w1 = w.alloc (.cells #[.int .i64 (N : Int), .int .i64 (ini : Int), .slice A n c, .slice B m d] 27) from hw1]
  replace hw1 := hide hw1
  go_wp2_with fail
  refine q1.out.mono ?_
  rintro e w2 ⟨rfl, hb2⟩
  have hB2 := hide (hB.out.below hb2)
  clear q1 b0 b1 b2 b3 hb2
  have b0 := hB2.out.box.c0
  have b1 := hB2.out.box.c1
  have b2 := hB2.out.box.c2
  have b3 := hB2.out.box.c3
  have q2 := hide (strong_calls hB2.out.sys c d)
  have hz2 := hB2.out.bel.size
  go_wp2_with fail
  refine q2.out.mono ?_
  rintro e w3 ⟨r, P, cP, rfl, hL, hP, hb3, hcap⟩
  replace hcap := hide hcap
  have hbF := hide (hB2.out.bel.trans (hb3.mono hz2))
  have hPF := hide (hP.more hz2 (Nat.le_refl _))
  replace hL := hide hL
  clear q2 b0 b1 b2 b3 hP hb3
  go_wp2_with fail
  go_ret2
  exact ⟨r, P, cP, rfl, hL.out, hPF.out, hbF.out, hcap.out⟩

end
end Go.Proofs.YtnhomkmfbngmgaaGreatDoor

namespace Go.Proofs.YtnhomkmfbngmgaaGreatDoor
open Go.ChangeShapes Go.WideShapes Go.ChangeAt Go.RowKit Go.Sort Go.Lib
set_option linter.unusedVariables false
set_option linter.unusedSimpArgs false

/-- What strong needs of a system. -/
structure SysE (w : World) (N : Nat) (B : Option Addr) (m : Nat) (es : List Ed) : Prop where
  se : SlE w 0 w.heap.size B m es
  sz : m ≤ 100000
  one : 1 ≤ N
  few : N ≤ 40
  ins : EdIn N es
  labs : ∀ e, e ∈ es → e.2.1 ≤ 1000
section
variable {w w' : World} {N ini : Nat} {A : Option Addr} {n : Nat} {B : Option Addr} {m : Nat} {es : List Ed}
theorem SysE.below {K : Nat} (h : SysE w N B m es) (hb : Below K w w') (hK : w.heap.size ≤ K) : SysE w' N B m es :=
  ⟨(h.se.below hb (.inr hK)).here', h.sz, h.one, h.few, h.ins, h.labs⟩
theorem SysE.next (h : SysE w N B m es) (c d : Nat) : NextOk es N 81 #[.agg #[.int .i64 (N : Int), .int .i64 (ini : Int), .slice A n c, .slice B m d]] w := by
  intro k P cP W lo hi hW hP
  have hS := h.below hW (Nat.le_refl _)
  have q := refine_calls N ini A n c B m d P cP es (rndP es N k) W _ _ lo hi hS.se hP h.sz h.one h.few h.ins h.labs (rnd_part k).range
  refine q.mono ?_
  rintro e W' ⟨Bq, rfl, h1, h2⟩
  exact ⟨_, _, rfl, h1, h2, Nat.le_refl _⟩
theorem SysE.rounds (h : SysE w N B m es) (c d : Nat) :
    Calls Tryz.prog 139 #[.int .i64 (N : Int), .func (.func 81) #[.agg #[.int .i64 (N : Int), .int .i64 (ini : Int), .slice A n c, .slice B m d]] #[]] w fun e w' => ∃ r A c R, e = .returned (.slice A (r + 1) c) ∧ LastR es N r ∧ RouW w w' es N r A c R :=
  rounds_calls es N h.one h.few h.ins _ _ w (h.next c d) (fun v W => by kernel_rfl)

set_option maxRecDepth 100000 in
set_option maxHeartbeats 1600000 in
theorem strongG_calls (h : SysE w N B m es) (c d : Nat) :
    Calls Tryz.prog 64 #[.agg #[.int .i64 (N : Int), .int .i64 (ini : Int), .slice A n c, .slice B m d]] w fun e w' => ∃ r P cP, e = .returned (.slice P N cP) ∧ LastR es N r ∧ SlI w' w.heap.size w'.heap.size P N (rndP es N r) ∧ Below w.heap.size w w' := by
  obtain ⟨w1, hw1⟩ : ∃ w1, w1 = w.alloc (ltsC N ini A n c B m d) := ⟨_, rfl⟩
  have hBx : LtsBox w1 w.heap.size (N : Int) (ini : Int) A n c B m d := by rw [hw1]; exact heap_alloc_new w _
  have hbel : Below w.heap.size w w1 := by rw [hw1]; exact (Below.refl w.heap.size w).alloc (Nat.le_refl _) _
  have b0 := hBx.c0
  have b1 := hBx.c1
  have b2 := hBx.c2
  have b3 := hBx.c3
  have hE1 := h.below hbel (Nat.le_refl _)
  have q2 := hide (hE1.rounds (ini := ini) (A := A) (n := n) c d)
  have hN1 := h.one
  have hed := hide h.ins
  have hz1 := hbel.size
  replace hbel := hide hbel
  replace hE1 := hide hE1
  clear h hBx
  go_enter Tryz.func64, Tryz.ntmps64
  go_upto_region 1 with fail
  rw [← show w1 = w.alloc (.cells #[.int .i64 (N : Int), .int .i64 (ini : Int), .slice A n c, .slice B m d] 27) from hw1]
  replace hw1 := hide hw1
  go_wp2_with fail
  refine q2.out.mono ?_
  rintro e w3 ⟨r, A3, c3, R, rfl, hL, hR⟩
  have hbF := hide (hbel.out.trans (hR.below.mono hz1))
  have hr1 := rnd_bound hed.out hN1 hL.2
  obtain ⟨bo, oo, Ah, ch, s, rfl, go1, go2, hrj, co, hsj, hoff⟩ := hR.grow.get (show r < r + 1 by omega)
  have hs : s = rndP es N r := by
    have h1 : (R.map (·.2))[r]? = some s := by rw [List.getElem?_map, hrj]; rfl
    rw [hR.vals, List.getElem?_map, List.getElem?_range (by omega)] at h1
    exact (Option.some.inj h1).symm
  subst hs
  have hfew := hE1.out.few
  have q3 := hide (lastR_calls _ _ N r c3 R w3 hR.grow (by omega) hrj)
  have hsF := hide (hsj.more hz1 (Nat.le_refl _))
  replace hL := hide hL
  replace hR := hide hR
  replace hsj := hide hsj
  clear q2 b0 b1 b2 b3 co hrj hoff
  go_wp2_with fail
  refine q3.out.mono ?_
  rintro e w4 ⟨rfl, rfl⟩
  go_wp2_with fail
  go_ret
  exact ⟨r, Ah, ch, rfl, hL.out, hsF.out, hbF.out⟩
end
theorem ltsEs_mem {ls : List ByteArray} {rs : List Arc} {e : Ed} : e ∈ ltsEs ls rs ↔ ∃ a, a ∈ rs ∧ e = arcD (joiF ls) a := by
  unfold ltsEs
  rw [compactE_mem]
  unfold sortE
  rw [List.mem_mergeSort, List.mem_map]
  exact ⟨fun ⟨a, h, e⟩ => ⟨a, h, e.symm⟩, fun ⟨a, h, e⟩ => ⟨a, h, e.symm⟩⟩
theorem ltsEs_len (ls : List ByteArray) (rs : List Arc) : (ltsEs ls rs).length ≤ rs.length := by
  unfold ltsEs
  refine Nat.le_trans (compactE_len _) ?_
  unfold sortE
  rw [List.length_mergeSort, List.length_map]
  exact Nat.le_refl _
theorem joiF_len (ls : List ByteArray) : (joiF ls).length ≤ ls.length + 1 := by
  unfold joiF
  rw [List.length_map]
  refine Nat.le_trans (Go.Lib.compact_length_le _) ?_
  rw [List.length_mergeSort, List.length_map, List.length_cons]
  exact Nat.le_refl _
/-- The union's arcs. -/
def uniA (la : List ByteArray) (ea : List Ed) (lb : List ByteArray) (eb : List Ed) (Na : Nat) : List Arc := ea.map (arcOf la) ++ (eb.map (arcOf lb)).map (shiftA Na)
/-- The union's edges. -/
def uniE (la : List ByteArray) (ea : List Ed) (lb : List ByteArray) (eb : List Ed) (Na : Nat) : List Ed := ltsEs (la ++ lb) (uniA la ea lb eb Na)
theorem arcOf_mem {la : List ByteArray} {e : Ed} (h : 0 ≤ e.2.1 ∧ e.2.1 < (la.length : Int)) : (arcOf la e).2.1 ∈ la := by
  unfold arcOf
  dsimp only
  rw [List.getElem?_eq_getElem (show e.2.1.toNat < la.length by omega), Option.getD_some]
  exact List.getElem_mem _
theorem uni_in {la : List ByteArray} {ea : List Ed} {lb : List ByteArray} {eb : List Ed} {Na Nb : Nat} (hla : la.length ≤ 100) (hlb : lb.length ≤ 100)
    (ha : ∀ e, e ∈ ea → (0 ≤ e.1 ∧ e.1 < (Na : Int)) ∧ (0 ≤ e.2.1 ∧ e.2.1 < (la.length : Int)) ∧ (0 ≤ e.2.2 ∧ e.2.2 < (Na : Int)))
    (hb : ∀ e, e ∈ eb → (0 ≤ e.1 ∧ e.1 < (Nb : Int)) ∧ (0 ≤ e.2.1 ∧ e.2.1 < (lb.length : Int)) ∧ (0 ≤ e.2.2 ∧ e.2.2 < (Nb : Int))) :
    EdIn (Na + Nb) (uniE la ea lb eb Na) ∧ ∀ e, e ∈ uniE la ea lb eb Na → e.2.1 ≤ 1000 := by
  have key : ∀ e, e ∈ uniE la ea lb eb Na → (0 ≤ e.1 ∧ e.1 < ((Na + Nb : Nat) : Int)) ∧ (0 ≤ e.2.1 ∧ e.2.1 ≤ 1000) ∧ (0 ≤ e.2.2 ∧ e.2.2 < ((Na + Nb : Nat) : Int)) := by
    intro e he
    obtain ⟨a, hm, rfl⟩ := ltsEs_mem.1 he
    have hjl := joiF_len (la ++ lb)
    rw [List.length_append] at hjl
    have lab : ∀ s, s ∈ la ++ lb → 0 ≤ idxZ (joiF (la ++ lb)) s ∧ idxZ (joiF (la ++ lb)) s ≤ 1000 := fun s hs => by
      obtain ⟨k, h1, h2⟩ := idxZ_get ((joi_mem_iff (la ++ lb) s).2 (.inr hs))
      have := (List.getElem?_eq_some_iff.1 h2).1
      omega
    unfold uniA at hm
    rcases List.mem_append.1 hm with h | h
    · obtain ⟨x, hx, rfl⟩ := List.mem_map.1 h
      have h1 := ha x hx
      have h2 := lab _ (List.mem_append_left lb (arcOf_mem h1.2.1))
      simp only [arcD]
      refine ⟨?_, h2, ?_⟩
      · show 0 ≤ x.1 ∧ x.1 < _; omega
      · show 0 ≤ x.2.2 ∧ x.2.2 < _; omega
    · obtain ⟨y, hy, rfl⟩ := List.mem_map.1 h
      obtain ⟨x, hx, rfl⟩ := List.mem_map.1 hy
      have h1 := hb x hx
      have h2 := lab _ (List.mem_append_right la (arcOf_mem h1.2.1))
      simp only [arcD, shiftA]
      refine ⟨?_, h2, ?_⟩
      · show 0 ≤ x.1 + _ ∧ x.1 + _ < _; omega
      · show 0 ≤ x.2.2 + _ ∧ x.2.2 + _ < _; omega
  exact ⟨fun e he => ⟨(key e he).1, (key e he).2.1.1, (key e he).2.2⟩, fun e he => (key e he).2.1.2⟩
end Go.Proofs.YtnhomkmfbngmgaaGreatDoor

namespace Go.Proofs.YtnhomkmfbngmgaaGreatDoor
set_option linter.unusedVariables false

structure BisR {L : Type} (A B : Nat → L → Nat → Prop) (R : Nat → Nat → Prop) : Prop where
  fwd : ∀ x y s x', R x y → A x s x' → ∃ y', B y s y' ∧ R x' y'
  bwd : ∀ x y s y', R x y → B y s y' → ∃ x', A x s x' ∧ R x' y'
/-- Two states that are strongly bisimilar. -/
def Bis {L : Type} (A B : Nat → L → Nat → Prop) (a b : Nat) : Prop := ∃ R, BisR A B R ∧ R a b
section
variable {L : Type} {A B C : Nat → L → Nat → Prop} {a b c : Nat}
theorem Bis.refl (A : Nat → L → Nat → Prop) (a : Nat) : Bis A A a a :=
  ⟨fun x y => x = y, ⟨fun x y s x' e h => ⟨x', e ▸ h, rfl⟩, fun x y s y' e h => ⟨y', e.symm ▸ h, rfl⟩⟩, rfl⟩
theorem Bis.symm (h : Bis A B a b) : Bis B A b a := by
  obtain ⟨R, h1, h2⟩ := h
  exact ⟨fun x y => R y x, ⟨fun x y s x' e g => h1.bwd y x s x' e g, fun x y s y' e g => h1.fwd y x s y' e g⟩, h2⟩
theorem Bis.trans (h : Bis A B a b) (g : Bis B C b c) : Bis A C a c := by
  obtain ⟨R, h1, h2⟩ := h
  obtain ⟨S, g1, g2⟩ := g
  refine ⟨fun x z => ∃ y, R x y ∧ S y z, ⟨fun x z s x' e k => ?_, fun x z s z' e k => ?_⟩, b, h2, g2⟩
  · obtain ⟨y, e1, e2⟩ := e
    obtain ⟨y', k1, k2⟩ := h1.fwd x y s x' e1 k
    obtain ⟨z', k3, k4⟩ := g1.fwd y z s y' e2 k1
    exact ⟨z', k3, y', k2, k4⟩
  · obtain ⟨y, e1, e2⟩ := e
    obtain ⟨y', k1, k2⟩ := g1.bwd y z s z' e2 k
    obtain ⟨x', k3, k4⟩ := h1.bwd x y s y' e1 k1
    exact ⟨x', k3, y', k4, k2⟩
theorem Bis.step (h : Bis A B a b) {s : L} {a' : Nat} (k : A a s a') : ∃ b', B b s b' ∧ Bis A B a' b' := by
  obtain ⟨R, h1, h2⟩ := h
  obtain ⟨b', k1, k2⟩ := h1.fwd a b s a' h2 k
  exact ⟨b', k1, R, h1, k2⟩
end

/-- An edge with a numbered label. -/
def nE (es : List Ed) (x : Nat) (l : Int) (y : Nat) : Prop := ((x : Int), l, (y : Int)) ∈ es
section
variable {es : List Ed} {N r : Nat}
theorem nE_in (he : EdIn N es) {x y : Nat} {l : Int} (h : nE es x l y) : x < N ∧ y < N := by
  have := he _ h
  simp only at this
  omega
theorem canS_nE (he : EdIn N es) {p : List Int} {k : Nat} {l b : Int} : canS es p k l b ↔ ∃ y, nE es k l y ∧ p[y]? = some b := by
  constructor
  · rintro ⟨⟨f, l', t⟩, h1, h2, h3, h4⟩
    have := he _ h1
    simp only at this h2 h3 h4
    refine ⟨t.toNat, ?_, h4⟩
    unfold nE
    rw [← h2, ← h3, show ((t.toNat : Nat) : Int) = t by omega]
    exact h1
  · rintro ⟨y, h1, h2⟩
    exact ⟨_, h1, rfl, rfl, by simpa using h2⟩
/-- Bisimilar states are together in each round. -/
theorem bis_rnd (he : EdIn N es) : ∀ (n : Nat) {x y : Nat}, x < N → y < N → Bis (nE es) (nE es) x y → sameB (rndP es N n) x y
  | 0, x, y, hx, hy, _ => rnd_zero hx hy
  | n + 1, x, y, hx, hy, h => by
    refine (rnd_same he hx hy).2 ⟨bis_rnd he n hx hy h, fun l b => ?_⟩
    rw [canS_nE he, canS_nE he]
    constructor
    · rintro ⟨z, h1, h2⟩
      obtain ⟨w, k1, k2⟩ := h.step h1
      exact ⟨w, k1, by rw [← bis_rnd he n (nE_in he h1).2 (nE_in he k1).2 k2]; exact h2⟩
    · rintro ⟨z, h1, h2⟩
      obtain ⟨w, k1, k2⟩ := h.symm.step h1
      exact ⟨w, k1, by rw [← bis_rnd he n (nE_in he h1).2 (nE_in he k1).2 k2]; exact h2⟩
/-- A stable partition is a bisimulation. -/
theorem stable_bis (he : EdIn N es) {p : List Int} (hp : PartN N p) (hs : refF es N p = p) : BisR (nE es) (nE es) fun x y => x < N ∧ y < N ∧ sameB p x y := by
  have key : ∀ x y s x', x < N → y < N → sameB p x y → nE es x s x' → ∃ y', nE es y s y' ∧ x' < N ∧ y' < N ∧ sameB p x' y' := by
    intro x y s x' hx hy hxy h
    rw [← hs] at hxy
    have h1 := ((ref_same he hp.len hp.range hx hy).1 hxy).2 s
    have hx' := (nE_in he h).2
    obtain ⟨b, hb⟩ : ∃ b, p[x']? = some b := ⟨_, List.getElem?_eq_getElem (by rw [hp.len]; exact hx')⟩
    obtain ⟨y', g1, g2⟩ := (canS_nE he).1 ((h1 b).1 ((canS_nE he).2 ⟨x', h, hb⟩))
    exact ⟨y', g1, hx', (nE_in he g1).2, by unfold sameB; rw [hb, g2]⟩
  refine ⟨fun x y s x' e h => key x y s x' e.1 e.2.1 e.2.2 h, fun x y s y' e h => ?_⟩
  obtain ⟨x', g1, g2, g3, g4⟩ := key y x s y' e.2.1 e.1 (Eq.symm e.2.2) h
  exact ⟨x', g1, g3, g2, Eq.symm g4⟩
theorem last_stable (h : LastR es N r) : refF es N (rndP es N r) = rndP es N r := h.1
theorem str_iff (he : EdIn N es) (h : LastR es N r) {x y : Nat} (hx : x < N) (hy : y < N) : sameB (rndP es N r) x y ↔ Bis (nE es) (nE es) x y :=
  ⟨fun g => ⟨_, stable_bis he (rnd_part r) (last_stable h), hx, hy, g⟩, bis_rnd he r hx hy⟩
/-- A stable partition is finer than the last round's. -/
theorem stable_fine (he : EdIn N es) {p : List Int} (hp : PartN N p) (hs : refF es N p = p) (n : Nat) {x y : Nat} (hx : x < N) (hy : y < N) (h : sameB p x y) : sameB (rndP es N n) x y :=
  bis_rnd he n hx hy ⟨_, stable_bis he hp hs, hx, hy, h⟩
end

/-! ## Labels as texts -/
/-- An edge with the text of its label. -/
def tE (ls : List ByteArray) (es : List Ed) (x : Nat) (s : ByteArray) (y : Nat) : Prop := ∃ l : Nat, nE es x (l : Int) y ∧ ls[l]? = some s
/-- Systems over the same texts: numbers or texts, the same bisimulations. -/
theorem bis_text {ls : List ByteArray} {es : List Ed} (hn : ls.Nodup) (hl : ∀ e, e ∈ es → 0 ≤ e.2.1 ∧ e.2.1 < (ls.length : Int)) {x y : Nat} : Bis (nE es) (nE es) x y ↔ Bis (tE ls es) (tE ls es) x y := by
  constructor
  · rintro ⟨R, h1, h2⟩
    refine ⟨R, ⟨fun a b s a' r h => ?_, fun a b s b' r h => ?_⟩, h2⟩
    · obtain ⟨l, g1, g2⟩ := h
      obtain ⟨b', k1, k2⟩ := h1.fwd a b _ a' r g1
      exact ⟨b', ⟨l, k1, g2⟩, k2⟩
    · obtain ⟨l, g1, g2⟩ := h
      obtain ⟨a', k1, k2⟩ := h1.bwd a b _ b' r g1
      exact ⟨a', ⟨l, k1, g2⟩, k2⟩
  · rintro ⟨R, h1, h2⟩
    have inj : ∀ {i j : Nat} {s : ByteArray}, ls[i]? = some s → ls[j]? = some s → i = j := fun {i j s} h g => by
      obtain ⟨hi, e1⟩ := List.getElem?_eq_some_iff.1 h
      obtain ⟨hj, e2⟩ := List.getElem?_eq_some_iff.1 g
      exact (List.getElem_inj hn).1 (e1.trans e2.symm)
    refine ⟨R, ⟨fun a b s a' r h => ?_, fun a b s b' r h => ?_⟩, h2⟩
    · have hs := hl _ h
      simp only at hs
      obtain ⟨l, rfl⟩ : ∃ l : Nat, s = (l : Int) := ⟨s.toNat, by omega⟩
      obtain ⟨t, ht⟩ : ∃ t, ls[l]? = some t := ⟨_, List.getElem?_eq_getElem (by omega)⟩
      obtain ⟨b', ⟨l2, k1, k2⟩, k3⟩ := h1.fwd a b t a' r ⟨l, h, ht⟩
      rw [inj ht k2]
      exact ⟨b', k1, k3⟩
    · have hs := hl _ h
      simp only at hs
      obtain ⟨l, rfl⟩ : ∃ l : Nat, s = (l : Int) := ⟨s.toNat, by omega⟩
      obtain ⟨t, ht⟩ : ∃ t, ls[l]? = some t := ⟨_, List.getElem?_eq_getElem (by omega)⟩
      obtain ⟨a', ⟨l2, k1, k2⟩, k3⟩ := h1.bwd a b t b' r ⟨l, h, ht⟩
      rw [inj ht k2]
      exact ⟨a', k1, k3⟩
/-- Two systems side by side. -/
def sumE {L : Type} (n : Nat) (A B : Nat → L → Nat → Prop) (x : Nat) (s : L) (y : Nat) : Prop := (x < n ∧ y < n ∧ A x s y) ∨ (∃ x' y', x = n + x' ∧ y = n + y' ∧ B x' s y')
theorem bis_sum {L : Type} {n : Nat} {A B : Nat → L → Nat → Prop} (hA : ∀ x s y, A x s y → x < n ∧ y < n) {a b : Nat} (ha : a < n) : Bis (sumE n A B) (sumE n A B) a (n + b) ↔ Bis A B a b := by
  constructor
  · rintro ⟨R, h1, h2⟩
    refine ⟨fun x y => x < n ∧ R x (n + y), ⟨fun x y s x' r h => ?_, fun x y s y' r h => ?_⟩, ha, h2⟩
    · have hx := hA x s x' h
      obtain ⟨y', k1, k2⟩ := h1.fwd x (n + y) s x' r.2 (.inl ⟨hx.1, hx.2, h⟩)
      rcases k1 with ⟨k, _⟩ | ⟨u, v, e1, rfl, k⟩
      · omega
      · obtain rfl : u = y := by omega
        exact ⟨v, k, hx.2, k2⟩
    · obtain ⟨x', k1, k2⟩ := h1.bwd x (n + y) s (n + y') r.2 (.inr ⟨y, y', rfl, rfl, h⟩)
      rcases k1 with ⟨_, k3, k⟩ | ⟨u, v, e1, e2, k⟩
      · exact ⟨x', k, k3, k2⟩
      · have := r.1; omega
  · rintro ⟨R, h1, h2⟩
    refine ⟨fun x y => x < n ∧ ∃ y', y = n + y' ∧ R x y', ⟨fun x y s x' r h => ?_, fun x y s y' r h => ?_⟩, ha, b, rfl, h2⟩
    · obtain ⟨hx, v, rfl, r⟩ := r
      rcases h with ⟨_, k3, k⟩ | ⟨u, v, e1, e2, k⟩
      · obtain ⟨w, g1, g2⟩ := h1.fwd x v s x' r k
        exact ⟨n + w, .inr ⟨v, w, rfl, rfl, g1⟩, k3, w, rfl, g2⟩
      · omega
    · obtain ⟨hx, v, rfl, r⟩ := r
      rcases h with ⟨k3, _, k⟩ | ⟨u, w, e1, rfl, k⟩
      · omega
      · obtain rfl : v = u := by omega
        obtain ⟨x', g1, g2⟩ := h1.bwd x v s w r k
        have := hA _ _ _ g1
        exact ⟨x', .inl ⟨this.1, this.2, g1⟩, this.2, w, rfl, g2⟩
end Go.Proofs.YtnhomkmfbngmgaaGreatDoor

namespace Go.Proofs.YtnhomkmfbngmgaaGreatDoor
set_option linter.unusedVariables false

/-- The edges between some states, by their places. -/
def PartE (S : List Int) (es es2 : List Ed) : Prop := ∀ f l t, (f, l, t) ∈ es2 ↔ ∃ (i j : Nat) (a b : Int), f = (i : Int) ∧ t = (j : Int) ∧ S[i]? = some a ∧ S[j]? = some b ∧ (a, l, b) ∈ es
theorem part_bis {S : List Int} {es es2 : List Ed} (hp : PartE S es es2) (hc : ∀ a l b, a ∈ S → (a, l, b) ∈ es → b ∈ S) (hS : S.Nodup) (hnn : ∀ a, a ∈ S → 0 ≤ a) {x i : Nat} (hx : S[i]? = some (x : Int)) : Bis (nE es) (nE es2) x i := by
  refine ⟨fun x i => S[i]? = some (x : Int), ⟨fun a i l a' r h => ?_, fun a i l j r h => ?_⟩, hx⟩
  · have hb := hc _ _ _ (List.mem_of_getElem? r) h
    obtain ⟨j, hj⟩ := List.getElem?_of_mem hb
    exact ⟨j, (hp _ _ _).2 ⟨i, j, _, _, rfl, rfl, r, hj, h⟩, hj⟩
  · obtain ⟨i2, j2, a2, b2, e1, e2, h1, h2, h3⟩ := (hp _ _ _).1 h
    obtain rfl : i2 = i := by omega
    obtain rfl : j2 = j := by omega
    rw [r] at h1
    injection h1 with h1
    subst h1
    have := hnn b2 (List.mem_of_getElem? h2)
    exact ⟨b2.toNat, by unfold nE; rw [show ((b2.toNat : Nat) : Int) = b2 by omega]; exact h3, by rw [h2]; congr 1; omega⟩
/-- The edges between blocks. -/
def QuoE (p : List Int) (es es2 : List Ed) : Prop := ∀ f l t, (f, l, t) ∈ es2 ↔ ∃ e, e ∈ es ∧ p[e.1.toNat]? = some f ∧ e.2.1 = l ∧ p[e.2.2.toNat]? = some t
section
variable {es es2 : List Ed} {N r : Nat} {p : List Int}
theorem quo_bis (he : EdIn N es) (hp : PartN N p) (hs : refF es N p = p) (hq : QuoE p es es2) {x c : Nat} (hx : x < N) (hc : p[x]? = some (c : Int)) : Bis (nE es) (nE es2) x c := by
  have hst := stable_bis he hp hs
  refine ⟨fun x c => x < N ∧ p[x]? = some (c : Int), ⟨fun x c l x' r h => ?_, fun x c l d r h => ?_⟩, hx, hc⟩
  · have hx' := (nE_in he h).2
    obtain ⟨d, hd⟩ : ∃ d, p[x']? = some d := ⟨_, List.getElem?_eq_getElem (by rw [hp.len]; exact hx')⟩
    have h0 := (hp.range d (List.mem_of_getElem? hd)).1
    have e : ((d.toNat : Nat) : Int) = d := by omega
    refine ⟨d.toNat, (hq _ _ _).2 ⟨_, h, by simpa using r.2, rfl, by rw [e]; simpa using hd⟩, hx', by rw [e]; exact hd⟩
  · obtain ⟨⟨f, l2, t⟩, h1, h2, h3, h4⟩ := (hq _ _ _).1 h
    have hin := he _ h1
    simp only at h2 h3 h4 hin
    subst h3
    have hsame : sameB p f.toNat x := by unfold sameB; rw [h2, r.2]
    have hE : nE es f.toNat l2 t.toNat := by
      unfold nE
      rw [show ((f.toNat : Nat) : Int) = f by omega, show ((t.toNat : Nat) : Int) = t by omega]
      exact h1
    obtain ⟨y, g1, g2, g3, g4⟩ := hst.fwd f.toNat x l2 t.toNat ⟨by omega, r.1, hsame⟩ hE
    exact ⟨y, g1, g3, by rw [← g4]; exact h4⟩
/-- In the system of the blocks no two states are alike. -/
theorem quo_apart (he : EdIn N es) (hl : LastR es N r) (hq : QuoE (rndP es N r) es es2) {c d : Nat} (hc : (c : Int) ∈ rndP es N r) (hd : (d : Int) ∈ rndP es N r) (h : Bis (nE es2) (nE es2) c d) : c = d := by
  obtain ⟨x, hx⟩ := List.getElem?_of_mem hc
  obtain ⟨y, hy⟩ := List.getElem?_of_mem hd
  have hxN : x < N := by have := (List.getElem?_eq_some_iff.1 hx).1; rw [(rnd_part r).len] at this; exact this
  have hyN : y < N := by have := (List.getElem?_eq_some_iff.1 hy).1; rw [(rnd_part r).len] at this; exact this
  have h1 := quo_bis he (rnd_part r) (last_stable hl) hq hxN hx
  have h2 := quo_bis he (rnd_part r) (last_stable hl) hq hyN hy
  have h3 := (str_iff he hl hxN hyN).2 (h1.trans (h.trans h2.symm))
  unfold sameB at h3
  rw [hx, hy] at h3
  injection h3 with h3
  omega
end
/-- All blocks of a partition have numbers below their number. -/
theorem part_mem {N : Nat} {p : List Int} (h : PartN N p) {c : Nat} (hc : c < numB p) : (c : Int) ∈ p := by
  have h1 := firsts_of_norm h.norm
  have : (c : Int) ∈ firsts [] p := by
    rw [h1]
    unfold selfL
    exact List.mem_map.2 ⟨c, List.mem_range.2 hc, rfl⟩
  exact (firsts_mem.1 this).resolve_left List.not_mem_nil
theorem part_lt {N : Nat} {p : List Int} (h : PartN N p) {x : Int} (hx : x ∈ p) : 0 ≤ x ∧ x < (numB p : Int) := by
  have h1 := firsts_of_norm h.norm
  have : x ∈ firsts [] p := firsts_mem.2 (.inr hx)
  rw [h1] at this
  obtain ⟨c, hc, rfl⟩ := List.mem_map.1 this
  have := List.mem_range.1 hc
  exact ⟨by show (0 : Int) ≤ (c : Int); omega, by show (c : Int) < _; omega⟩
/-- A partition into single states. -/
theorem numB_single {p : List Int} (h : ∀ i j, i < p.length → j < p.length → sameB p i j → i = j) : numB p = p.length := by
  have hn : p.Nodup := by
    refine List.pairwise_iff_getElem.2 fun i j hi hj hij e => ?_
    have := h i j hi hj (by unfold sameB; rw [List.getElem?_eq_getElem hi, List.getElem?_eq_getElem hj, e])
    omega
  have h1 : p.length ≤ (firsts [] p).length := sub_len hn fun y hy => firsts_mem.2 (.inr hy)
  have h2 := numB_le p
  unfold numB at *
  omega
end Go.Proofs.YtnhomkmfbngmgaaGreatDoor

namespace Go.Proofs.YtnhomkmfbngmgaaGreatDoor
open Go.ChangeShapes Go.WideShapes Go.ChangeAt Go.RowKit Go.Sort Go.Lib
set_option linter.unusedVariables false
set_option linter.unusedSimpArgs false

theorem arc_step {J ls : List ByteArray} {es : List Ed} (hJ : ∀ s, s ∈ ls → s ∈ J) (hl : ∀ e, e ∈ es → 0 ≤ e.2.1 ∧ e.2.1 < (ls.length : Int)) {f t : Int} {s : ByteArray} :
    (∃ l : Nat, (∃ a, a ∈ es.map (arcOf ls) ∧ (f, (l : Int), t) = arcD J a) ∧ J[l]? = some s) ↔ ∃ l : Nat, (f, (l : Int), t) ∈ es ∧ ls[l]? = some s := by
  constructor
  · rintro ⟨l, ⟨a, ha, e⟩, hs⟩
    obtain ⟨x, hx, rfl⟩ := List.mem_map.1 ha
    have hlx := hl x hx
    unfold arcD at e
    injection e with e1 e2
    injection e2 with e2 e3
    obtain ⟨k, h1, h2⟩ := idxZ_get (hJ _ (arcOf_mem (la := ls) (e := x) hlx))
    have : k = l := by omega
    subst this
    rw [hs] at h2
    have h3 := Option.some.inj h2
    unfold arcOf at h3 e1 e3
    simp only at h3 e1 e3
    rw [List.getElem?_eq_getElem (show x.2.1.toNat < ls.length by omega), Option.getD_some] at h3
    refine ⟨x.2.1.toNat, ?_, by rw [h3]; exact List.getElem?_eq_getElem _⟩
    rw [show ((x.2.1.toNat : Nat) : Int) = x.2.1 by omega, e1, e3]
    exact hx
  · rintro ⟨l, hx, hs⟩
    have hms := List.mem_of_getElem? hs
    obtain ⟨k, h1, h2⟩ := idxZ_get (hJ s hms)
    refine ⟨k, ⟨arcOf ls (f, (l : Int), t), List.mem_map.2 ⟨_, hx, rfl⟩, ?_⟩, h2⟩
    rw [arcOf_at hs]
    unfold arcD
    simp only
    rw [h1]
theorem uni_tE {la : List ByteArray} {ea : List Ed} {lb : List ByteArray} {eb : List Ed} {Na : Nat}
    (ha : ∀ e, e ∈ ea → (0 ≤ e.1 ∧ e.1 < (Na : Int)) ∧ (0 ≤ e.2.1 ∧ e.2.1 < (la.length : Int)) ∧ (0 ≤ e.2.2 ∧ e.2.2 < (Na : Int)))
    (hb : ∀ e, e ∈ eb → 0 ≤ e.1 ∧ (0 ≤ e.2.1 ∧ e.2.1 < (lb.length : Int)) ∧ 0 ≤ e.2.2) {x y : Nat} {s : ByteArray} :
    tE (joiF (la ++ lb)) (uniE la ea lb eb Na) x s y ↔ sumE Na (tE la ea) (tE lb eb) x s y := by
  have hJa : ∀ s, s ∈ la → s ∈ joiF (la ++ lb) := fun s hs => (joi_mem_iff _ _).2 (.inr (List.mem_append_left _ hs))
  have hJb : ∀ s, s ∈ lb → s ∈ joiF (la ++ lb) := fun s hs => (joi_mem_iff _ _).2 (.inr (List.mem_append_right _ hs))
  have ka := fun (f t : Int) (s : ByteArray) => arc_step (es := ea) (f := f) (t := t) (s := s) hJa fun e he => (ha e he).2.1
  have kb := fun (f t : Int) (s : ByteArray) => arc_step (es := eb) (f := f) (t := t) (s := s) hJb fun e he => (hb e he).2.1
  unfold tE sumE nE
  constructor
  · rintro ⟨l, he, hs⟩
    unfold uniE at he
    obtain ⟨a, hm, e⟩ := ltsEs_mem.1 he
    unfold uniA at hm
    rcases List.mem_append.1 hm with h | h
    · obtain ⟨l', h1, h2⟩ := (ka (x : Int) (y : Int) s).1 ⟨l, ⟨a, h, e⟩, hs⟩
      have := ha _ h1
      dsimp only at this
      exact .inl ⟨by omega, by omega, l', h1, h2⟩
    · obtain ⟨b, hb', rfl⟩ := List.mem_map.1 h
      have hbx := hb'
      obtain ⟨z, hz, hzb⟩ := List.mem_map.1 hb'
      have hz2 := hb z hz
      have e0 := e
      unfold arcD shiftA at e
      injection e with e1 e2
      injection e2 with e2 e3
      simp only at e1 e2 e3
      have b1 : b.1 = z.1 := by rw [← hzb]; rfl
      have b2 : b.2.2 = z.2.2 := by rw [← hzb]; rfl
      obtain ⟨l', h1, h2⟩ := (kb b.1 b.2.2 s).1 ⟨l, ⟨b, hbx, by unfold arcD; rw [e2]⟩, hs⟩
      refine .inr ⟨b.1.toNat, b.2.2.toNat, by omega, by omega, l', ?_, h2⟩
      rw [show ((b.1.toNat : Nat) : Int) = b.1 by omega, show ((b.2.2.toNat : Nat) : Int) = b.2.2 by omega]
      exact h1
  · rintro (⟨-, -, l, h1, h2⟩ | ⟨x', y', rfl, rfl, l, h1, h2⟩)
    · obtain ⟨k, ⟨a, hm, e⟩, hs⟩ := (ka (x : Int) (y : Int) s).2 ⟨l, h1, h2⟩
      exact ⟨k, ltsEs_mem.2 ⟨a, List.mem_append_left _ hm, e⟩, hs⟩
    · obtain ⟨k, ⟨a, hm, e⟩, hs⟩ := (kb (x' : Int) (y' : Int) s).2 ⟨l, h1, h2⟩
      refine ⟨k, ltsEs_mem.2 ⟨shiftA Na a, List.mem_append_right _ (List.mem_map.2 ⟨a, hm, rfl⟩), ?_⟩, hs⟩
      unfold arcD at e
      injection e with e1 e2
      injection e2 with e2 e3
      unfold arcD shiftA
      simp only
      rw [← e1, ← e2, ← e3]
      congr 1
      · omega
      · congr 1
        omega
end Go.Proofs.YtnhomkmfbngmgaaGreatDoor

namespace Go.Proofs.YtnhomkmfbngmgaaGreatDoor
open Go.ChangeShapes Go.WideShapes Go.ChangeAt Go.RowKit Go.Sort Go.Lib
set_option linter.unusedVariables false
set_option linter.unusedSimpArgs false

/-- The boxes of two systems. -/
structure TwoS (w wr : World) (Na ia : Nat) (A : Option Addr) (n c : Nat) (B : Option Addr) (m d : Nat) (Nb ib : Nat) (A' : Option Addr) (n' c' : Nat) (B' : Option Addr) (m' d' : Nat) : Prop where
  boxa : LtsBox wr w.heap.size (Na : Int) (ia : Int) A n c B m d
  boxb : LtsBox wr (w.heap.size + 1) (Nb : Int) (ib : Int) A' n' c' B' m' d'
  bel : Below w.heap.size w wr
def TwoC (w w' : World) (Na ia : Nat) (A : Option Addr) (n c : Nat) (B : Option Addr) (m d : Nat) (Nb ib : Nat) (A' : Option Addr) (n' c' : Nat) (B' : Option Addr) (m' d' : Nat) : Prop :=
  w'.cell? ⟨w.heap.size, 0, none⟩ = some (.int .i64 (Na : Int)) ∧ w'.cell? ⟨w.heap.size, 1, none⟩ = some (.int .i64 (ia : Int)) ∧ w'.cell? ⟨w.heap.size, 2, none⟩ = some (.slice A n c) ∧ w'.cell? ⟨w.heap.size, 3, none⟩ = some (.slice B m d) ∧
  w'.cell? ⟨w.heap.size + 1, 0, none⟩ = some (.int .i64 (Nb : Int)) ∧ w'.cell? ⟨w.heap.size + 1, 1, none⟩ = some (.int .i64 (ib : Int)) ∧ w'.cell? ⟨w.heap.size + 1, 2, none⟩ = some (.slice A' n' c') ∧ w'.cell? ⟨w.heap.size + 1, 3, none⟩ = some (.slice B' m' d')
section
variable {w wr w2 : World} {Na ia : Nat} {A : Option Addr} {n c : Nat} {B : Option Addr} {m d : Nat} {Nb ib : Nat} {A' : Option Addr} {n' c' : Nat} {B' : Option Addr} {m' d' : Nat}
theorem TwoS.below (h : TwoS w wr Na ia A n c B m d Nb ib A' n' c' B' m' d') {K : Nat} (hb : Below K wr w2) (hK : wr.heap.size ≤ K) : TwoS w w2 Na ia A n c B m d Nb ib A' n' c' B' m' d' := by
  have := h.boxa.lt
  have := h.boxb.lt
  exact ⟨h.boxa.below hb (by omega), h.boxb.below hb (by omega), h.bel.trans (hb.mono (by omega))⟩
theorem TwoS.cells (h : TwoS w wr Na ia A n c B m d Nb ib A' n' c' B' m' d') : TwoC w wr Na ia A n c B m d Nb ib A' n' c' B' m' d' :=
  ⟨h.boxa.c0, h.boxa.c1, h.boxa.c2, h.boxa.c3, h.boxb.c0, h.boxb.c1, h.boxb.c2, h.boxb.c3⟩
theorem TwoS.start (w : World) (Na ia : Nat) (A : Option Addr) (n c : Nat) (B : Option Addr) (m d : Nat) (Nb ib : Nat) (A' : Option Addr) (n' c' : Nat) (B' : Option Addr) (m' d' : Nat) :
    TwoS w ((w.alloc (ltsC Na ia A n c B m d)).alloc (ltsC Nb ib A' n' c' B' m' d')) Na ia A n c B m d Nb ib A' n' c' B' m' d' := by
  have z1 : (w.alloc (ltsC Na ia A n c B m d)).heap.size = w.heap.size + 1 := World.size_alloc _ _
  have b1 := (Below.refl (w.heap.size + 1) (w.alloc (ltsC Na ia A n c B m d))).alloc (by omega) (ltsC Nb ib A' n' c' B' m' d')
  have x1 : LtsBox (w.alloc (ltsC Na ia A n c B m d)) w.heap.size (Na : Int) (ia : Int) A n c B m d := heap_alloc_new w _
  have x2 : LtsBox ((w.alloc (ltsC Na ia A n c B m d)).alloc (ltsC Nb ib A' n' c' B' m' d')) (w.heap.size + 1) (Nb : Int) (ib : Int) A' n' c' B' m' d' := by rw [← z1]; exact heap_alloc_new _ _
  exact ⟨x1.below b1 (by omega), x2, ((Below.refl w.heap.size w).alloc (Nat.le_refl _) _).trans (b1.mono (by omega))⟩
end
set_option maxRecDepth 100000 in
set_option maxHeartbeats 1600000 in
theorem initialTogether_calls (Na ia : Nat) (A : Option Addr) (n c : Nat) (B : Option Addr) (m d : Nat) (Nb ib : Nat) (A' : Option Addr) (n' c' : Nat) (B' : Option Addr) (m' d' : Nat) (P : Option Addr) (cP : Nat) (p : List Int) (w : World) (lo hi : Nat) (hP : SlI w lo hi P (Na + Nb) p) (hia : ia < Na) (hib : ib < Nb) (hNa : Na ≤ 40) (hNb : Nb ≤ 40) :
    Calls Tryz.prog 136 #[.agg #[.int .i64 (Na : Int), .int .i64 (ia : Int), .slice A n c, .slice B m d], .agg #[.int .i64 (Nb : Int), .int .i64 (ib : Int), .slice A' n' c', .slice B' m' d'], .slice P (Na + Nb) cP] w (Says (decide (p[ia]? = p[Na + ib]?)) w) := by
  have hT := TwoS.start w Na ia A n c B m d Nb ib A' n' c' B' m' d'
  obtain ⟨w1, hw1⟩ : ∃ w1, w1 = (w.alloc (ltsC Na ia A n c B m d)).alloc (ltsC Nb ib A' n' c' B' m' d') := ⟨_, rfl⟩
  rw [← hw1] at hT
  obtain ⟨g, o, x, rfl, -, -, hg, hx, cx, -⟩ := SlI.get hP (show ia < Na + Nb by omega)
  obtain ⟨g2, o2, y, e2, -, -, hg2, hy, cy, -⟩ := SlI.get hP (show Na + ib < Na + Nb by omega)
  cases e2
  replace cx := (hT.bel.cell (p := ⟨g, o + ia, none⟩) hg).trans cx
  replace cy := (hT.bel.cell (p := ⟨g, o + (Na + ib), none⟩) hg).trans cy
  obtain ⟨a0, a1, a2, a3, b0, b1, b2, b3⟩ := hT.cells
  have hsum : IntKind.i64.wrap ((Na : Int) + (ib : Int)) = (Na : Int) + (ib : Int) := IntWalk.i64_in _ (by omega)
  have hsum2 : ((Na : Int) + (ib : Int)).toNat = Na + ib := by omega
  have i0 : (0 : Int) ≤ (ia : Int) := by omega
  have i1 : (ia : Int) < ((Na + Nb : Nat) : Int) := by omega
  have j0 : (0 : Int) ≤ (Na : Int) + (ib : Int) := by omega
  have j1 : (Na : Int) + (ib : Int) < ((Na + Nb : Nat) : Int) := by omega
  have hv : decide (p[ia]? = p[Na + ib]?) = (x == y) := by rw [hx, hy]; by_cases e : x = y <;> simp [e]
  rw [hv]
  have hbel := hide hT.bel
  clear hT hP hx hy hv
  by_cases e : x = y
  · subst e
    have g1 : (x == x) = true := by simp
    rw [g1]
    go_enter Tryz.func136, Tryz.ntmps136
    go_upto_region 1 with fail
    rw [show ((w.alloc (.cells #[.int .i64 (Na : Int), .int .i64 (ia : Int), .slice A n c, .slice B m d] 27)).alloc (.cells #[.int .i64 (Nb : Int), .int .i64 (ib : Int), .slice A' n' c', .slice B' m' d'] 27)) = w1 from hw1.symm]
    replace hw1 := hide hw1
    go_quiet (fail)
    go_wp2_with fail
    go_ret
    exact ⟨rfl, hbel.out.trans ((below_drewN _ _).mono hbel.out.size)⟩
  · have g1 : (x == y) = false := by rw [beq_eq_false_iff_ne]; exact e
    rw [g1]
    go_enter Tryz.func136, Tryz.ntmps136
    go_upto_region 1 with fail
    rw [show ((w.alloc (.cells #[.int .i64 (Na : Int), .int .i64 (ia : Int), .slice A n c, .slice B m d] 27)).alloc (.cells #[.int .i64 (Nb : Int), .int .i64 (ib : Int), .slice A' n' c', .slice B' m' d'] 27)) = w1 from hw1.symm]
    replace hw1 := hide hw1
    go_quiet (fail)
    go_wp2_with fail
    go_ret
    exact ⟨rfl, hbel.out.trans ((below_drewN _ _).mono hbel.out.size)⟩
section
variable {w : World} {Na ia : Nat} {A : Option Addr} {n : Nat} {B : Option Addr} {m : Nat} {la : List ByteArray} {ea : List Ed} {Nb ib : Nat} {A' : Option Addr} {n' : Nat} {B' : Option Addr} {m' : Nat} {lb : List ByteArray} {eb : List Ed}
theorem SysA.three (h : SysA w Na ia A n B m la ea) : ∀ e, e ∈ ea → (0 ≤ e.1 ∧ e.1 < (Na : Int)) ∧ (0 ≤ e.2.1 ∧ e.2.1 < (la.length : Int)) ∧ (0 ≤ e.2.2 ∧ e.2.2 < (Na : Int)) := fun e he => ⟨(h.ends e he).1, h.labs e he, (h.ends e he).2⟩
set_option maxRecDepth 100000 in
set_option maxHeartbeats 1600000 in
theorem both_calls (h : SysA w Na ia A n B m la ea) (g : SysA w Nb ib A' n' B' m' lb eb) (c d c' d' : Nat) (hsum : Na + Nb ≤ 40) :
    Calls Tryz.prog 137 #[.agg #[.int .i64 (Na : Int), .int .i64 (ia : Int), .slice A n c, .slice B m d], .agg #[.int .i64 (Nb : Int), .int .i64 (ib : Int), .slice A' n' c', .slice B' m' d'], .func (.func 64) #[] #[]] w fun e w' => ∃ r P cP, e = .returned (.slice P (Na + Nb) cP) ∧ LastR (uniE la ea lb eb Na) (Na + Nb) r ∧ SlI w' w.heap.size w'.heap.size P (Na + Nb) (rndP (uniE la ea lb eb Na) (Na + Nb) r) ∧ Below w.heap.size w w' := by
  have hT := TwoS.start w Na ia A n c B m d Nb ib A' n' c' B' m' d'
  obtain ⟨w1, hw1⟩ : ∃ w1, w1 = (w.alloc (ltsC Na ia A n c B m d)).alloc (ltsC Nb ib A' n' c' B' m' d') := ⟨_, rfl⟩
  rw [← hw1] at hT
  obtain ⟨hm, hn12, hn1, hle, hll⟩ := h.many
  obtain ⟨hm', hn12', hn1', hle', hll'⟩ := g.many
  have hbo := h.bounds.1.1
  have hui := uni_in (la := la) (ea := ea) (lb := lb) (eb := eb) (by omega) (by omega) h.three g.three
  have hqU := hide (union_calls (h.below hT.bel (Nat.le_refl _)) (g.below hT.bel (Nat.le_refl _)) c d c' d')
  have hul : (uniE la ea lb eb Na).length ≤ 1000 := by
    refine Nat.le_trans (ltsEs_len _ _) ?_
    unfold uniA
    simp only [List.length_append, List.length_map]
    omega
  obtain ⟨a0, a1, a2, a3, b0, b1, b2, b3⟩ := hT.cells
  replace hui := hide hui
  have hbel := hide hT.bel
  clear hT h g
  go_enter Tryz.func137, Tryz.ntmps137
  go_upto_region 1 with fail
  rw [show ((w.alloc (.cells #[.int .i64 (Na : Int), .int .i64 (ia : Int), .slice A n c, .slice B m d] 27)).alloc (.cells #[.int .i64 (Nb : Int), .int .i64 (ib : Int), .slice A' n' c', .slice B' m' d'] 27)) = w1 from hw1.symm]
  replace hw1 := hide hw1
  go_wp2_with (go_at_call 229; refine hqU.out.mono ?_; rintro e w2 ⟨A2, n2, c2, A3, n3, c3, rfl, hS2, hE2, hb2⟩)
  have hlen : (uniE la ea lb eb Na).length = n3 := hE2.len
  have hz2 := hbel.out.size
  have hS : SysE w2 (Na + Nb) A3 n3 (uniE la ea lb eb Na) := ⟨hE2.here', by omega, by omega, hsum, hui.out.1, hui.out.2⟩
  have q := strongG_calls (ini := ia) (A := A2) (n := n2) hS c2 c3
  rw [Int.natCast_add] at q
  replace hS2 := hide hS2
  replace hE2 := hide hE2
  replace hlen := hide hlen
  replace q := hide q
  clear hS a0 a1 a2 a3 b0 b1 b2 b3
  refine q.out.mono ?_
  rintro e w3 ⟨r, P, cP, rfl, hL, hP, hb3⟩
  have hbF := hide ((hbel.out.trans (hb2.mono hz2)).trans (hb3.mono (Nat.le_trans hz2 hb2.size)))
  have hPF := hide (hP.more (Nat.le_trans hz2 hb2.size) (Nat.le_refl _))
  replace hL := hide hL
  clear hb2 hb3 hP q
  go_wp2_with fail
  go_ret
  exact ⟨r, P, cP, rfl, hL.out, hPF.out, hbF.out⟩
set_option maxRecDepth 100000 in
set_option maxHeartbeats 3200000 in
theorem areBisimilar_calls (h : SysA w Na ia A n B m la ea) (g : SysA w Nb ib A' n' B' m' lb eb) (c d c' d' : Nat) (he : Env w) (hsum : Na + Nb ≤ 40) :
    Calls Tryz.prog 63 #[.agg #[.int .i64 (Na : Int), .int .i64 (ia : Int), .slice A n c, .slice B m d], .agg #[.int .i64 (Nb : Int), .int .i64 (ib : Int), .slice A' n' c', .slice B' m' d'], .func (.func 64) #[] #[]] w fun e w' => ∃ r, e = .returned (.tuple #[.bool (decide ((rndP (uniE la ea lb eb Na) (Na + Nb) r)[ia]? = (rndP (uniE la ea lb eb Na) (Na + Nb) r)[Na + ib]?)), .int .i64 0]) ∧ LastR (uniE la ea lb eb Na) (Na + Nb) r ∧ Below w.heap.size w w' := by
  have hT := TwoS.start w Na ia A n c B m d Nb ib A' n' c' B' m' d'
  obtain ⟨w1, hw1⟩ : ∃ w1, w1 = (w.alloc (ltsC Na ia A n c B m d)).alloc (ltsC Nb ib A' n' c' B' m' d') := ⟨_, rfl⟩
  rw [← hw1] at hT
  have hia := h.bounds.2
  have hib := g.bounds.2
  have hNa2 := h.bounds.1.2
  have hNb2 := g.bounds.1.2
  have he1 := he.below hT.bel (Nat.le_refl _)
  have hq1 := hide ((h.below hT.bel (Nat.le_refl _)).valid c d he1)
  obtain ⟨a0, a1, a2, a3, b0, b1, b2, b3⟩ := hT.cells
  replace hT := hide hT
  go_enter Tryz.func63, Tryz.ntmps63
  go_upto_region 1 with fail
  rw [show ((w.alloc (.cells #[.int .i64 (Na : Int), .int .i64 (ia : Int), .slice A n c, .slice B m d] 27)).alloc (.cells #[.int .i64 (Nb : Int), .int .i64 (ib : Int), .slice A' n' c', .slice B' m' d'] 27)) = w1 from hw1.symm]
  replace hw1 := hide hw1
  go_wp2_with fail
  refine hq1.out.mono ?_
  rintro e w2 ⟨rfl, hb2⟩
  have hT2 := hT.out.below hb2 (Nat.le_refl _)
  have he2 := he1.below hb2 (Nat.le_refl _)
  have hq2 := hide ((g.below hT2.bel (Nat.le_refl _)).valid c' d' he2)
  clear a0 a1 a2 a3 b0 b1 b2 b3 hb2 hq1
  obtain ⟨a0, a1, a2, a3, b0, b1, b2, b3⟩ := hT2.cells
  replace hT2 := hide hT2
  go_wp2_with fail
  refine hq2.out.mono ?_
  rintro e w3 ⟨rfl, hb3⟩
  have hT3 := hide (hT2.out.below hb3 (Nat.le_refl _))
  clear a0 a1 a2 a3 b0 b1 b2 b3 hb3 hq2
  go_wp2_with fail
  obtain ⟨wD, hwD⟩ : ∃ wD, wD = w3.drew := ⟨_, rfl⟩
  have hTD := hide (hT3.out.below (w2 := wD) (K := w3.heap.size) (by rw [hwD]; exact (Below.refl _ _).drew) (Nat.le_refl _))
  have hqB := hide (both_calls (h.below hTD.out.bel (Nat.le_refl _)) (g.below hTD.out.bel (Nat.le_refl _)) c d c' d' hsum)
  replace hwD := hide hwD
  clear h g he he1 he2
  refine lateT_begin (S := fun w' => TwoC w w' Na ia A n c B m d Nb ib A' n' c' B' m' d') (st := 8) (by kernel_rfl) ?_
  rw [← show wD = _ from hwD.out]
  have hS0 : (fun w' : World => TwoC w w' Na ia A n c B m d Nb ib A' n' c' B' m' d') wD := hTD.out.cells
  refine lateT_take (i := 0) (oi := _) (v := ?_) [8] rfl (by kernel_rfl) (by kernel_rfl) (by kernel_rfl) (by kernel_rfl) (fun _ _ _ h => h) (Or.inl ⟨by rfl, ?hy⟩) hS0 ?_
  case hy => (intro w9 hSw; obtain ⟨y0, y1, y2, y3, z0, z1, z2, z3⟩ := hSw; go_simp <;> with_reducible rfl)
  (try simp only [Act.put, List.setIfInBounds_toArray, List.set_cons_zero, List.set_cons_succ])
  refine lateT_take (i := 1) (oi := _) (v := ?_) [8] rfl (by kernel_rfl) (by kernel_rfl) (by kernel_rfl) (by kernel_rfl) (fun _ _ _ h => h) (Or.inl ⟨by rfl, ?hy⟩) hS0 ?_
  case hy => (intro w9 hSw; obtain ⟨y0, y1, y2, y3, z0, z1, z2, z3⟩ := hSw; go_simp <;> with_reducible rfl)
  (try simp only [Act.put, List.setIfInBounds_toArray, List.set_cons_zero, List.set_cons_succ])
  refine lateT_take (i := 2) (oi := _) (v := ?_) [8] rfl (by kernel_rfl) (by kernel_rfl) (by kernel_rfl) (by kernel_rfl) (fun _ _ _ h => h) (Or.inl ⟨by rfl, ?hy⟩) hS0 ?_
  case hy => (intro w9 hSw; obtain ⟨y0, y1, y2, y3, z0, z1, z2, z3⟩ := hSw; go_simp <;> with_reducible rfl)
  (try simp only [Act.put, List.setIfInBounds_toArray, List.set_cons_zero, List.set_cons_succ])
  refine lateT_take (i := 3) (oi := _) (v := ?_) [8] rfl (by kernel_rfl) (by kernel_rfl) (by kernel_rfl) (by kernel_rfl) (fun _ _ _ h => h) (Or.inl ⟨by rfl, ?hy⟩) hS0 ?_
  case hy => (intro w9 hSw; obtain ⟨y0, y1, y2, y3, z0, z1, z2, z3⟩ := hSw; go_simp <;> with_reducible rfl)
  (try simp only [Act.put, List.setIfInBounds_toArray, List.set_cons_zero, List.set_cons_succ])
  refine lateT_take (i := 4) (oi := _) (v := ?_) [8] rfl (by kernel_rfl) (by kernel_rfl) (by kernel_rfl) (by kernel_rfl) (fun _ _ _ h => h) (Or.inl ⟨by rfl, ?hy⟩) hS0 ?_
  case hy => (intro w9 hSw; obtain ⟨y0, y1, y2, y3, z0, z1, z2, z3⟩ := hSw; go_simp <;> with_reducible rfl)
  (try simp only [Act.put, List.setIfInBounds_toArray, List.set_cons_zero, List.set_cons_succ])
  refine lateT_step (i := 5) (by kernel_rfl) rfl (fun K hK => ?_)
  go_simp
  go_at_call 137
  refine hqB.out.mono ?_
  rintro e w5 ⟨r, P, cP, rfl, hL, hP, hb5⟩
  have hT5 := hide (hTD.out.below hb5 (Nat.le_refl _))
  have hqI := hide (initialTogether_calls Na ia A n c B m d Nb ib A' n' c' B' m' d' P cP _ w5 _ _ hP (by omega) (by omega) hNa2 hNb2)
  have hb5h := hide hb5
  replace hL := hide hL
  clear hb5
  go_wp2_with fail
  refine hK.out _ _ (fun _ => hT5.out.cells) ?_
  clear hK K
  (try simp only [Act.put, List.setIfInBounds_toArray, List.set_cons_zero, List.set_cons_succ])
  refine lateT_step (i := 6) (by kernel_rfl) rfl (fun K hK => ?_)
  go_simp
  go_at_call 136
  refine hqI.out.mono ?_
  rintro e w6 ⟨rfl, hb6⟩
  have hT6 := hide (hT5.out.below hb6 (Nat.le_refl _))
  clear hqI
  go_wp2_with fail
  refine hK.out _ _ (fun _ => hT6.out.cells) ?_
  clear hK K
  (try simp only [Act.put, List.setIfInBounds_toArray, List.set_cons_zero, List.set_cons_succ])
  refine lateT_step (i := 7) (by kernel_rfl) rfl (fun K hK => ?_)
  go_simp
  refine hK.out _ _ (fun _ => hT6.out.cells) ?_
  clear hK K
  (try simp only [Act.put, List.setIfInBounds_toArray, List.set_cons_zero, List.set_cons_succ])
  refine lateT_step (i := 8) (by kernel_rfl) rfl (fun K hK => ?_)
  go_simp
  refine hK.out _ _ (fun h => absurd rfl h) ?_
  clear hK K
  (try simp only [Act.put, List.setIfInBounds_toArray, List.set_cons_zero, List.set_cons_succ])
  refine lateT_done (by kernel_rfl) ?_ _
  have hbF := hT6.out.bel
  go_wp2_with fail
  go_ret2
  exact ⟨r, rfl, hL.out, hbF⟩
set_option maxRecDepth 100000 in
theorem areBis_calls (h : SysA w Na ia A n B m la ea) (g : SysA w Nb ib A' n' B' m' lb eb) (c d c' d' : Nat) (he : Env w) (hsum : Na + Nb ≤ 40) :
    Calls Tryz.prog 19 #[.agg #[.int .i64 (Na : Int), .int .i64 (ia : Int), .slice A n c, .slice B m d], .agg #[.int .i64 (Nb : Int), .int .i64 (ib : Int), .slice A' n' c', .slice B' m' d']] w fun e w' => ∃ r, e = .returned (.tuple #[.bool (decide ((rndP (uniE la ea lb eb Na) (Na + Nb) r)[ia]? = (rndP (uniE la ea lb eb Na) (Na + Nb) r)[Na + ib]?)), .int .i64 0]) ∧ LastR (uniE la ea lb eb Na) (Na + Nb) r ∧ Below w.heap.size w w' := by
  have hT := TwoS.start w Na ia A n c B m d Nb ib A' n' c' B' m' d'
  obtain ⟨w1, hw1⟩ : ∃ w1, w1 = (w.alloc (ltsC Na ia A n c B m d)).alloc (ltsC Nb ib A' n' c' B' m' d') := ⟨_, rfl⟩
  rw [← hw1] at hT
  have hq := hide (areBisimilar_calls (h.below hT.bel (Nat.le_refl _)) (g.below hT.bel (Nat.le_refl _)) c d c' d' (he.below hT.bel (Nat.le_refl _)) hsum)
  obtain ⟨a0, a1, a2, a3, b0, b1, b2, b3⟩ := hT.cells
  have hbel := hide hT.bel
  clear hT h g he
  go_enter Tryz.func19, Tryz.ntmps19
  go_upto_region 1 with fail
  rw [show ((w.alloc (.cells #[.int .i64 (Na : Int), .int .i64 (ia : Int), .slice A n c, .slice B m d] 27)).alloc (.cells #[.int .i64 (Nb : Int), .int .i64 (ib : Int), .slice A' n' c', .slice B' m' d'] 27)) = w1 from hw1.symm]
  replace hw1 := hide hw1
  go_wp2_with fail
  refine hq.out.mono ?_
  rintro e w2 ⟨r, rfl, hL, hb2⟩
  have hbF := hide (hbel.out.trans (hb2.mono hbel.out.size))
  replace hL := hide hL
  clear hq hb2 a0 a1 a2 a3 b0 b1 b2 b3
  go_wp2_with fail
  go_ret2
  exact ⟨r, rfl, hL.out, hbF.out⟩
end
end Go.Proofs.YtnhomkmfbngmgaaGreatDoor
