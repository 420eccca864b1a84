/-
  Valid summands and linear processes, by the program. Conditions: sizes.
-/
import Derived.Test.YtdjhpdmpibokhaaLinImpl
namespace Go.Proofs.Ytdjhpdmpibokhaa
open Go.ChangeShapes Go.WideShapes Go.ChangeAt Go.RowKit
set_option linter.unusedVariables false

theorem valid1_calls (A : Option Addr) (n c : Nat) (l : List (Int × Int)) (p : Int) (A0 : Option Addr) (n0 k0 b2 b3 : Nat) (W : World) (lo hi : Nat) (h : SlT W lo hi A n l) (hn : n ≤ 1048576) (hp0 : 0 ≤ p) (hp1 : p ≤ 21) (hn0 : n0 ≤ 1048576)
    (e2 : W.cell? ⟨b2, 0, none⟩ = some (.slice A0 n0 k0)) (e3 : W.cell? ⟨b3, 0, none⟩ = some (.int .i64 p)) :
    Calls Try.prog 117 (#[.slice A n c] ++ #[.pointer (some ⟨b3, 0, none⟩), .pointer (some ⟨b2, 0, none⟩)]) W (Says (!(validTerms l (p + (n0 : Int)) 60)) W) := by
  have q := hide (implValidTerms_calls A n c l (p + (n0 : Int)) 60 W lo hi h hn)
  clear h
  show Calls _ _ #[.slice A n c, .pointer (some ⟨b3, 0, none⟩), .pointer (some ⟨b2, 0, none⟩)] W _
  go_enter Try.func117, Try.ntmps117
  go_wp2_with fail
  refine q.out.mono ?_
  rintro e w1 ⟨rfl, hb⟩
  go_wp2_with fail
  go_ret
  exact ⟨rfl, hb⟩

theorem any_valid {p : Int} {n0 : Nat} (h0 : 0 ≤ p) (h1 : p ≤ 21) (h2 : n0 ≤ 8) (d1 : List (Int × Int)) (d3 d4 : DTT) :
    (!((d1 :: (d3 ++ d4)).any fun l => !(validTerms l (p + (n0 : Int)) 60))) = (isTerms d1 (p + (n0 : Int)) 60 && (eachB d3 (p + (n0 : Int)) && eachB d4 (p + (n0 : Int)))) := by
  have hv : ∀ l, validTerms l (p + (n0 : Int)) 60 = isTerms l (p + (n0 : Int)) 60 := fun l => by
    have e1 : inB (p + (n0 : Int)) 0 29 = true := by simp [inB]; omega
    have e2 : inB 60 1 60 = true := by decide
    unfold validTerms
    rw [e1, e2]
    rfl
  simp only [hv, List.any_cons, List.any_append, eachB, List.all_eq_not_any_not]
  simp [Bool.not_or, Bool.and_assoc]

set_option maxHeartbeats 3200000 in
set_option maxRecDepth 100000 in
theorem summandValid_calls {v0 v1 v3 v4 : Value} {nm : ByteArray} {d : DSu} {p : Int} {w : World} {lo hi : Nat} (h : ReadSu w lo hi (v0, v1, nm, v3, v4) d) (ht : totSu d ≤ 1048576) (hp0 : 0 ≤ p) (hp1 : p ≤ 21) :
    Calls Try.prog 91 #[.agg #[v0, v1, .string nm, v3, v4], .int .i64 p] w fun e w' => e = .returned (.bool (summandB p d)) ∧ Below w.heap.size w w' := by
  obtain ⟨d0, d1, dn, d3, d4⟩ := d
  obtain ⟨⟨A0, n0, k0, e0, hn0, s0⟩, ⟨A1, n1, k1, e1, hn1, s1⟩, ⟨en, hnn⟩, t3, t4⟩ := h
  dsimp only at *
  subst e0 e1 en
  have l0 := s0.len
  have l1 := s1.len
  have htot : totSu (d0, d1, nm, d3, d4) = n0 + n1 + nm.size + totTT d3 + totTT d4 := by simp [totSu, l0, l1]
  rw [htot] at ht
  obtain ⟨A3, n3, k3, R3, rfl, r3, rfl, hb3⟩ := t3.rows (by omega)
  obtain ⟨A4, n4, k4, R4, rfl, r4, rfl, hb4⟩ := t4.rows (by omega)
  have hl3 : n3 = (R3.map (·.2)).length := by rw [List.length_map, r3.len]
  have hl4 : n4 = (R4.map (·.2)).length := by rw [List.length_map, r4.len]
  have hval : summandB p (d0, d1, nm, R3.map (·.2), R4.map (·.2)) = (sumsB d0 && (isTerms d1 (p + (n0 : Int)) 60 && (decide ((n4 : Int) = p) && (nameCond nm n3 && (eachB (R3.map (·.2)) (p + (n0 : Int)) && eachB (R4.map (·.2)) (p + (n0 : Int))))))) := by unfold summandB; rw [← hl3, ← hl4, l0]
  have hbb : Below w.heap.size w ((w.alloc (.cells #[.slice A0 n0 k0, .slice A1 n1 k1, .string nm, .slice A3 n3 k3, .slice A4 n4 k4] 103)).alloc (.cells #[.int .i64 p] 2)) := ((Below.refl _ _).alloc (Nat.le_refl _) _).alloc (by simp only [World.size_alloc]; omega) _
  have kk0 : ((w.alloc (.cells #[.slice A0 n0 k0, .slice A1 n1 k1, .string nm, .slice A3 n3 k3, .slice A4 n4 k4] 103)).alloc (.cells #[.int .i64 p] 2)).heap[w.heap.size]? = some (.cells #[.slice A0 n0 k0, .slice A1 n1 k1, .string nm, .slice A3 n3 k3, .slice A4 n4 k4] 103 (0, 0)) := (Below.heap_alloc _ _ _ (by simp only [World.size_alloc]; omega)).trans (heap_alloc_new w _)
  have kk1 : ((w.alloc (.cells #[.slice A0 n0 k0, .slice A1 n1 k1, .string nm, .slice A3 n3 k3, .slice A4 n4 k4] 103)).alloc (.cells #[.int .i64 p] 2)).heap[w.heap.size + 1]? = some (.cells #[.int .i64 p] 2 (0, 0)) := by have h := heap_alloc_new (w.alloc (.cells #[.slice A0 n0 k0, .slice A1 n1 k1, .string nm, .slice A3 n3 k3, .slice A4 n4 k4] 103)) (.cells #[.int .i64 p] 2); rw [World.size_alloc] at h; exact h
  have hz : w.heap.size + 1 < ((w.alloc (.cells #[.slice A0 n0 k0, .slice A1 n1 k1, .string nm, .slice A3 n3 k3, .slice A4 n4 k4] 103)).alloc (.cells #[.int .i64 p] 2)).heap.size := by simp only [World.size_alloc]; omega
  have q0 := sumsOk_calls A0 n0 k0 d0 (.slice A1 n1 k1) (.slice A3 n3 k3) (.slice A4 n4 k4) nm ((w.alloc (.cells #[.slice A0 n0 k0, .slice A1 n1 k1, .string nm, .slice A3 n3 k3, .slice A4 n4 k4] 103)).alloc (.cells #[.int .i64 p] 2)) lo hi (s0.below hbb (.inr (Nat.le_refl _))) (by omega)
  have q2 := fun W => isAction_calls nm W hnn
  have qe := hide (fun W (hW : Below w.heap.size w W) (h3 : n3 ≤ 1000) (h4 : n4 ≤ 1000) => exprs_calls (.slice A0 n0 k0) nm A1 A3 A4 n1 k1 n3 k3 n4 k4 d1 R3 R4 W lo hi (s1.below hW (.inr (Nat.le_refl _))) (by omega) (r3.below hW (.inr (Nat.le_refl _))) (r4.below hW (.inr (Nat.le_refl _))) h3 h4)
  have hn0s : n0 ≤ 1048576 := by omega
  clear s0 s1 t3 t4 r3 r4 l1 htot ht hl3 hl4 hnn hn0 hn1
  have zt : True := trivial
  have zn : True := trivial
  have zm : True := trivial
  have z4 : True := trivial
  by_cases z0 : sumsB d0 = true
  · have hn8 : n0 ≤ 8 := by
      have b0 := z0
      unfold sumsB at b0
      rw [Bool.and_eq_true, Bool.and_eq_true] at b0
      have := b0.2.1
      rw [l0] at this
      simpa using this
    clear l0
    rw [z0] at q0
    replace q0 := hide q0
    by_cases z4 : (n4 : Int) = p
    · have zz4 : ((n4 : Int) != p) = false := by simp [z4]
      by_cases zt : tauB nm = true
      · have w1' : nm.toList = [116, 97, 117] := by simpa [tauB] using zt
        have w4' : (nm.toList == [116, 97, 117]) = true := zt
        replace q2 := hide q2
        by_cases zn : n3 = 0
        · subst zn
          have zn : True := trivial
          have zm : nameCond nm 0 = true := by unfold nameCond; rw [if_pos zt]; rfl
          have hv : Hid (summandB p (d0, d1, nm, R3.map (·.2), R4.map (·.2)) = (isTerms d1 (p + (n0 : Int)) 60 && (eachB (R3.map (·.2)) (p + (n0 : Int)) && eachB (R4.map (·.2)) (p + (n0 : Int))))) := by show _ = _; rw [hval, z0, zm, z4]; simp
          have h3k : 0 ≤ 1000 := by omega
          have h4k : n4 ≤ 1000 := by omega
          clear hval z0 z4 zt zn zm
          go_enter Try.func91, Try.ntmps91
          go_wp2_with fail
          generalize ((w.alloc (.cells #[.slice A0 n0 k0, .slice A1 n1 k1, .string nm, .slice A3 0 k3, .slice A4 n4 k4] 103)).alloc (.cells #[.int .i64 p] 2)) = W2 at *
          refine q0.out.mono ?_
          rintro e w1 ⟨rfl, hb1⟩
          replace kk0 := (hb1.block _ (by omega)).trans kk0
          replace kk1 := (hb1.block _ (by omega)).trans kk1
          replace hbb := hbb.trans (hb1.mono hbb.size)
          replace hz := Nat.lt_of_lt_of_le hz hb1.size
          have a0 : w1.cell? ⟨w.heap.size, 0, none⟩ = some (.slice A0 n0 k0) := (cell_of_row _ _ 0 _ _ (0, 0) kk0).trans rfl
          have a1 : w1.cell? ⟨w.heap.size, 1, none⟩ = some (.slice A1 n1 k1) := (cell_of_row _ _ 1 _ _ (0, 0) kk0).trans rfl
          have a2 : w1.cell? ⟨w.heap.size, 2, none⟩ = some (.string nm) := (cell_of_row _ _ 2 _ _ (0, 0) kk0).trans rfl
          have a3 : w1.cell? ⟨w.heap.size, 3, none⟩ = some (.slice A3 0 k3) := (cell_of_row _ _ 3 _ _ (0, 0) kk0).trans rfl
          have a4 : w1.cell? ⟨w.heap.size, 4, none⟩ = some (.slice A4 n4 k4) := (cell_of_row _ _ 4 _ _ (0, 0) kk0).trans rfl
          have a5 : w1.cell? ⟨w.heap.size + 1, 0, none⟩ = some (.int .i64 p) := (cell_of_row _ _ 0 _ _ (0, 0) kk1).trans rfl
          clear hb1 q0
          go_wp2_with (first | (go_at_call 115; (with_reducible refine (q2.out _).mono ?_); rintro e wx ⟨rfl, rfl⟩))
          refine (qe.out w1 hbb h3k h4k).mono ?_
          rintro e w2 ⟨AA, N, cc, RR, rfl, hN, hTT, hRR, hb2⟩
          replace kk0 := (hb2.block _ (by omega)).trans kk0
          replace kk1 := (hb2.block _ (by omega)).trans kk1
          replace hbb := hbb.trans (hb2.mono hbb.size)
          replace hz := Nat.lt_of_lt_of_le hz hb2.size
          have qc := hide (containsFuncTT_calls 117 #[.pointer (some ⟨w.heap.size + 1, 0, none⟩), .pointer (some ⟨w.heap.size, 0, none⟩)] (fun l => !(validTerms l (p + (n0 : Int)) 60)) AA N cc RR w2 0 _ hTT hN (fun _ _ => by kernel_rfl) (fun A' m' d' l W' hW' hl hm => valid1_calls A' m' d' l p A0 n0 k0 w.heap.size (w.heap.size + 1) W' _ _ hl hm hp0 hp1 hn0s ((cell_of_row _ _ 0 _ _ (0, 0) ((hW'.block _ (by omega)).trans kk0)).trans rfl) ((cell_of_row _ _ 0 _ _ (0, 0) ((hW'.block _ (by omega)).trans kk1)).trans rfl)))
          clear a0 a1 a2 a3 a4 a5 hb2 hTT qe
          replace hRR := hide hRR
          go_wp2_with fail
          refine qc.out.mono ?_
          rintro e w3 ⟨rfl, hb3⟩
          go_wp2_with fail
          go_ret
          exact ⟨ret_b (by rw [hv.out, ← any_valid hp0 hp1 hn8, ← hRR.out, List.any_map]), hbb.trans (hb3.mono hbb.size)⟩
        · have w2' : (0 : Int) < (n3 : Int) := by omega
          have zm : nameCond nm n3 = false := by simp [nameCond, zt, zn]
          have hv : Hid (summandB p (d0, d1, nm, R3.map (·.2), R4.map (·.2)) = false) := by show _ = _; rw [hval]; simp [*]
          clear hval qe z0 z4 zt zn zm
          go_enter Try.func91, Try.ntmps91
          go_wp2_with fail
          generalize ((w.alloc (.cells #[.slice A0 n0 k0, .slice A1 n1 k1, .string nm, .slice A3 n3 k3, .slice A4 n4 k4] 103)).alloc (.cells #[.int .i64 p] 2)) = W2 at *
          refine q0.out.mono ?_
          rintro e w1 ⟨rfl, hb1⟩
          replace kk0 := (hb1.block _ (by omega)).trans kk0
          replace kk1 := (hb1.block _ (by omega)).trans kk1
          replace hbb := hbb.trans (hb1.mono hbb.size)
          replace hz := Nat.lt_of_lt_of_le hz hb1.size
          have a0 : w1.cell? ⟨w.heap.size, 0, none⟩ = some (.slice A0 n0 k0) := (cell_of_row _ _ 0 _ _ (0, 0) kk0).trans rfl
          have a1 : w1.cell? ⟨w.heap.size, 1, none⟩ = some (.slice A1 n1 k1) := (cell_of_row _ _ 1 _ _ (0, 0) kk0).trans rfl
          have a2 : w1.cell? ⟨w.heap.size, 2, none⟩ = some (.string nm) := (cell_of_row _ _ 2 _ _ (0, 0) kk0).trans rfl
          have a3 : w1.cell? ⟨w.heap.size, 3, none⟩ = some (.slice A3 n3 k3) := (cell_of_row _ _ 3 _ _ (0, 0) kk0).trans rfl
          have a4 : w1.cell? ⟨w.heap.size, 4, none⟩ = some (.slice A4 n4 k4) := (cell_of_row _ _ 4 _ _ (0, 0) kk0).trans rfl
          have a5 : w1.cell? ⟨w.heap.size + 1, 0, none⟩ = some (.int .i64 p) := (cell_of_row _ _ 0 _ _ (0, 0) kk1).trans rfl
          clear hb1 q0
          go_wp2_with (first | (go_at_call 115; (with_reducible refine (q2.out _).mono ?_); rintro e wx ⟨rfl, rfl⟩))
          go_ret
          exact ⟨ret_b (by rw [hv.out]), hbb⟩
      · replace zt := Bool.eq_false_iff.2 zt
        have w1' : ¬ nm.toList = [116, 97, 117] := by simpa [tauB] using zt
        have w4' : (nm.toList == [116, 97, 117]) = false := zt
        by_cases zk : n3 ≤ 2
        · have w3' : ¬ (2 : Int) < (n3 : Int) := by omega
          by_cases zn : nameB nm = true
          · have za : actionB nm = true := by simp [actionB, zn, zt]
            simp only [za] at q2
            replace q2 := hide q2
            have zm : nameCond nm n3 = true := by simp [nameCond, zt, zn, zk]
            clear za
            by_cases zo : n3 = 0
            · subst zo
              have hv : Hid (summandB p (d0, d1, nm, R3.map (·.2), R4.map (·.2)) = (isTerms d1 (p + (n0 : Int)) 60 && (eachB (R3.map (·.2)) (p + (n0 : Int)) && eachB (R4.map (·.2)) (p + (n0 : Int))))) := by show _ = _; rw [hval, z0, zm, z4]; simp
              have h3k : 0 ≤ 1000 := by omega
              have h4k : n4 ≤ 1000 := by omega
              clear hval z0 z4 zt zn zm
              go_enter Try.func91, Try.ntmps91
              go_wp2_with fail
              generalize ((w.alloc (.cells #[.slice A0 n0 k0, .slice A1 n1 k1, .string nm, .slice A3 0 k3, .slice A4 n4 k4] 103)).alloc (.cells #[.int .i64 p] 2)) = W2 at *
              refine q0.out.mono ?_
              rintro e w1 ⟨rfl, hb1⟩
              replace kk0 := (hb1.block _ (by omega)).trans kk0
              replace kk1 := (hb1.block _ (by omega)).trans kk1
              replace hbb := hbb.trans (hb1.mono hbb.size)
              replace hz := Nat.lt_of_lt_of_le hz hb1.size
              have a0 : w1.cell? ⟨w.heap.size, 0, none⟩ = some (.slice A0 n0 k0) := (cell_of_row _ _ 0 _ _ (0, 0) kk0).trans rfl
              have a1 : w1.cell? ⟨w.heap.size, 1, none⟩ = some (.slice A1 n1 k1) := (cell_of_row _ _ 1 _ _ (0, 0) kk0).trans rfl
              have a2 : w1.cell? ⟨w.heap.size, 2, none⟩ = some (.string nm) := (cell_of_row _ _ 2 _ _ (0, 0) kk0).trans rfl
              have a3 : w1.cell? ⟨w.heap.size, 3, none⟩ = some (.slice A3 0 k3) := (cell_of_row _ _ 3 _ _ (0, 0) kk0).trans rfl
              have a4 : w1.cell? ⟨w.heap.size, 4, none⟩ = some (.slice A4 n4 k4) := (cell_of_row _ _ 4 _ _ (0, 0) kk0).trans rfl
              have a5 : w1.cell? ⟨w.heap.size + 1, 0, none⟩ = some (.int .i64 p) := (cell_of_row _ _ 0 _ _ (0, 0) kk1).trans rfl
              clear hb1 q0
              go_wp2_with (first | (go_at_call 115; (with_reducible refine (q2.out _).mono ?_); rintro e wx ⟨rfl, rfl⟩))
              refine (qe.out w1 hbb h3k h4k).mono ?_
              rintro e w2 ⟨AA, N, cc, RR, rfl, hN, hTT, hRR, hb2⟩
              replace kk0 := (hb2.block _ (by omega)).trans kk0
              replace kk1 := (hb2.block _ (by omega)).trans kk1
              replace hbb := hbb.trans (hb2.mono hbb.size)
              replace hz := Nat.lt_of_lt_of_le hz hb2.size
              have qc := hide (containsFuncTT_calls 117 #[.pointer (some ⟨w.heap.size + 1, 0, none⟩), .pointer (some ⟨w.heap.size, 0, none⟩)] (fun l => !(validTerms l (p + (n0 : Int)) 60)) AA N cc RR w2 0 _ hTT hN (fun _ _ => by kernel_rfl) (fun A' m' d' l W' hW' hl hm => valid1_calls A' m' d' l p A0 n0 k0 w.heap.size (w.heap.size + 1) W' _ _ hl hm hp0 hp1 hn0s ((cell_of_row _ _ 0 _ _ (0, 0) ((hW'.block _ (by omega)).trans kk0)).trans rfl) ((cell_of_row _ _ 0 _ _ (0, 0) ((hW'.block _ (by omega)).trans kk1)).trans rfl)))
              clear a0 a1 a2 a3 a4 a5 hb2 hTT qe
              replace hRR := hide hRR
              go_wp2_with fail
              refine qc.out.mono ?_
              rintro e w3 ⟨rfl, hb3⟩
              go_wp2_with fail
              go_ret
              exact ⟨ret_b (by rw [hv.out, ← any_valid hp0 hp1 hn8, ← hRR.out, List.any_map]), hbb.trans (hb3.mono hbb.size)⟩
            · have w2' : (0 : Int) < (n3 : Int) := by omega
              clear zo
              have hv : Hid (summandB p (d0, d1, nm, R3.map (·.2), R4.map (·.2)) = (isTerms d1 (p + (n0 : Int)) 60 && (eachB (R3.map (·.2)) (p + (n0 : Int)) && eachB (R4.map (·.2)) (p + (n0 : Int))))) := by show _ = _; rw [hval, z0, zm, z4]; simp
              have h3k : n3 ≤ 1000 := by omega
              have h4k : n4 ≤ 1000 := by omega
              clear hval z0 z4 zt zn zm
              go_enter Try.func91, Try.ntmps91
              go_wp2_with fail
              generalize ((w.alloc (.cells #[.slice A0 n0 k0, .slice A1 n1 k1, .string nm, .slice A3 n3 k3, .slice A4 n4 k4] 103)).alloc (.cells #[.int .i64 p] 2)) = W2 at *
              refine q0.out.mono ?_
              rintro e w1 ⟨rfl, hb1⟩
              replace kk0 := (hb1.block _ (by omega)).trans kk0
              replace kk1 := (hb1.block _ (by omega)).trans kk1
              replace hbb := hbb.trans (hb1.mono hbb.size)
              replace hz := Nat.lt_of_lt_of_le hz hb1.size
              have a0 : w1.cell? ⟨w.heap.size, 0, none⟩ = some (.slice A0 n0 k0) := (cell_of_row _ _ 0 _ _ (0, 0) kk0).trans rfl
              have a1 : w1.cell? ⟨w.heap.size, 1, none⟩ = some (.slice A1 n1 k1) := (cell_of_row _ _ 1 _ _ (0, 0) kk0).trans rfl
              have a2 : w1.cell? ⟨w.heap.size, 2, none⟩ = some (.string nm) := (cell_of_row _ _ 2 _ _ (0, 0) kk0).trans rfl
              have a3 : w1.cell? ⟨w.heap.size, 3, none⟩ = some (.slice A3 n3 k3) := (cell_of_row _ _ 3 _ _ (0, 0) kk0).trans rfl
              have a4 : w1.cell? ⟨w.heap.size, 4, none⟩ = some (.slice A4 n4 k4) := (cell_of_row _ _ 4 _ _ (0, 0) kk0).trans rfl
              have a5 : w1.cell? ⟨w.heap.size + 1, 0, none⟩ = some (.int .i64 p) := (cell_of_row _ _ 0 _ _ (0, 0) kk1).trans rfl
              clear hb1 q0
              go_wp2_with (first | (go_at_call 115; (with_reducible refine (q2.out _).mono ?_); rintro e wx ⟨rfl, rfl⟩))
              refine (qe.out w1 hbb h3k h4k).mono ?_
              rintro e w2 ⟨AA, N, cc, RR, rfl, hN, hTT, hRR, hb2⟩
              replace kk0 := (hb2.block _ (by omega)).trans kk0
              replace kk1 := (hb2.block _ (by omega)).trans kk1
              replace hbb := hbb.trans (hb2.mono hbb.size)
              replace hz := Nat.lt_of_lt_of_le hz hb2.size
              have qc := hide (containsFuncTT_calls 117 #[.pointer (some ⟨w.heap.size + 1, 0, none⟩), .pointer (some ⟨w.heap.size, 0, none⟩)] (fun l => !(validTerms l (p + (n0 : Int)) 60)) AA N cc RR w2 0 _ hTT hN (fun _ _ => by kernel_rfl) (fun A' m' d' l W' hW' hl hm => valid1_calls A' m' d' l p A0 n0 k0 w.heap.size (w.heap.size + 1) W' _ _ hl hm hp0 hp1 hn0s ((cell_of_row _ _ 0 _ _ (0, 0) ((hW'.block _ (by omega)).trans kk0)).trans rfl) ((cell_of_row _ _ 0 _ _ (0, 0) ((hW'.block _ (by omega)).trans kk1)).trans rfl)))
              clear a0 a1 a2 a3 a4 a5 hb2 hTT qe
              replace hRR := hide hRR
              go_wp2_with fail
              refine qc.out.mono ?_
              rintro e w3 ⟨rfl, hb3⟩
              go_wp2_with fail
              go_ret
              exact ⟨ret_b (by rw [hv.out, ← any_valid hp0 hp1 hn8, ← hRR.out, List.any_map]), hbb.trans (hb3.mono hbb.size)⟩
          · replace zn := Bool.eq_false_iff.2 zn
            have za : actionB nm = false := by simp [actionB, zn]
            simp only [za] at q2
            replace q2 := hide q2
            have zm : nameCond nm n3 = false := by simp [nameCond, zt, zn]
            clear za
            by_cases zo : n3 = 0
            · subst zo
              have hv : Hid (summandB p (d0, d1, nm, R3.map (·.2), R4.map (·.2)) = false) := by show _ = _; rw [hval]; simp [*]
              clear hval qe z0 z4 zt zn zm
              go_enter Try.func91, Try.ntmps91
              go_wp2_with fail
              generalize ((w.alloc (.cells #[.slice A0 n0 k0, .slice A1 n1 k1, .string nm, .slice A3 0 k3, .slice A4 n4 k4] 103)).alloc (.cells #[.int .i64 p] 2)) = W2 at *
              refine q0.out.mono ?_
              rintro e w1 ⟨rfl, hb1⟩
              replace kk0 := (hb1.block _ (by omega)).trans kk0
              replace kk1 := (hb1.block _ (by omega)).trans kk1
              replace hbb := hbb.trans (hb1.mono hbb.size)
              replace hz := Nat.lt_of_lt_of_le hz hb1.size
              have a0 : w1.cell? ⟨w.heap.size, 0, none⟩ = some (.slice A0 n0 k0) := (cell_of_row _ _ 0 _ _ (0, 0) kk0).trans rfl
              have a1 : w1.cell? ⟨w.heap.size, 1, none⟩ = some (.slice A1 n1 k1) := (cell_of_row _ _ 1 _ _ (0, 0) kk0).trans rfl
              have a2 : w1.cell? ⟨w.heap.size, 2, none⟩ = some (.string nm) := (cell_of_row _ _ 2 _ _ (0, 0) kk0).trans rfl
              have a3 : w1.cell? ⟨w.heap.size, 3, none⟩ = some (.slice A3 0 k3) := (cell_of_row _ _ 3 _ _ (0, 0) kk0).trans rfl
              have a4 : w1.cell? ⟨w.heap.size, 4, none⟩ = some (.slice A4 n4 k4) := (cell_of_row _ _ 4 _ _ (0, 0) kk0).trans rfl
              have a5 : w1.cell? ⟨w.heap.size + 1, 0, none⟩ = some (.int .i64 p) := (cell_of_row _ _ 0 _ _ (0, 0) kk1).trans rfl
              clear hb1 q0
              go_wp2_with (first | (go_at_call 115; (with_reducible refine (q2.out _).mono ?_); rintro e wx ⟨rfl, rfl⟩))
              go_ret
              exact ⟨ret_b (by rw [hv.out]), hbb⟩
            · have w2' : (0 : Int) < (n3 : Int) := by omega
              clear zo
              have hv : Hid (summandB p (d0, d1, nm, R3.map (·.2), R4.map (·.2)) = false) := by show _ = _; rw [hval]; simp [*]
              clear hval qe z0 z4 zt zn zm
              go_enter Try.func91, Try.ntmps91
              go_wp2_with fail
              generalize ((w.alloc (.cells #[.slice A0 n0 k0, .slice A1 n1 k1, .string nm, .slice A3 n3 k3, .slice A4 n4 k4] 103)).alloc (.cells #[.int .i64 p] 2)) = W2 at *
              refine q0.out.mono ?_
              rintro e w1 ⟨rfl, hb1⟩
              replace kk0 := (hb1.block _ (by omega)).trans kk0
              replace kk1 := (hb1.block _ (by omega)).trans kk1
              replace hbb := hbb.trans (hb1.mono hbb.size)
              replace hz := Nat.lt_of_lt_of_le hz hb1.size
              have a0 : w1.cell? ⟨w.heap.size, 0, none⟩ = some (.slice A0 n0 k0) := (cell_of_row _ _ 0 _ _ (0, 0) kk0).trans rfl
              have a1 : w1.cell? ⟨w.heap.size, 1, none⟩ = some (.slice A1 n1 k1) := (cell_of_row _ _ 1 _ _ (0, 0) kk0).trans rfl
              have a2 : w1.cell? ⟨w.heap.size, 2, none⟩ = some (.string nm) := (cell_of_row _ _ 2 _ _ (0, 0) kk0).trans rfl
              have a3 : w1.cell? ⟨w.heap.size, 3, none⟩ = some (.slice A3 n3 k3) := (cell_of_row _ _ 3 _ _ (0, 0) kk0).trans rfl
              have a4 : w1.cell? ⟨w.heap.size, 4, none⟩ = some (.slice A4 n4 k4) := (cell_of_row _ _ 4 _ _ (0, 0) kk0).trans rfl
              have a5 : w1.cell? ⟨w.heap.size + 1, 0, none⟩ = some (.int .i64 p) := (cell_of_row _ _ 0 _ _ (0, 0) kk1).trans rfl
              clear hb1 q0
              go_wp2_with (first | (go_at_call 115; (with_reducible refine (q2.out _).mono ?_); rintro e wx ⟨rfl, rfl⟩))
              go_ret
              exact ⟨ret_b (by rw [hv.out]), hbb⟩
        · have w3' : (2 : Int) < (n3 : Int) := by omega
          have w2' : (0 : Int) < (n3 : Int) := by omega
          replace q2 := hide q2
          have zm : nameCond nm n3 = false := by simp [nameCond, zk]
          clear zk
          have hv : Hid (summandB p (d0, d1, nm, R3.map (·.2), R4.map (·.2)) = false) := by show _ = _; rw [hval]; simp [*]
          clear hval qe z0 z4 zt zn zm
          go_enter Try.func91, Try.ntmps91
          go_wp2_with fail
          generalize ((w.alloc (.cells #[.slice A0 n0 k0, .slice A1 n1 k1, .string nm, .slice A3 n3 k3, .slice A4 n4 k4] 103)).alloc (.cells #[.int .i64 p] 2)) = W2 at *
          refine q0.out.mono ?_
          rintro e w1 ⟨rfl, hb1⟩
          replace kk0 := (hb1.block _ (by omega)).trans kk0
          replace kk1 := (hb1.block _ (by omega)).trans kk1
          replace hbb := hbb.trans (hb1.mono hbb.size)
          replace hz := Nat.lt_of_lt_of_le hz hb1.size
          have a0 : w1.cell? ⟨w.heap.size, 0, none⟩ = some (.slice A0 n0 k0) := (cell_of_row _ _ 0 _ _ (0, 0) kk0).trans rfl
          have a1 : w1.cell? ⟨w.heap.size, 1, none⟩ = some (.slice A1 n1 k1) := (cell_of_row _ _ 1 _ _ (0, 0) kk0).trans rfl
          have a2 : w1.cell? ⟨w.heap.size, 2, none⟩ = some (.string nm) := (cell_of_row _ _ 2 _ _ (0, 0) kk0).trans rfl
          have a3 : w1.cell? ⟨w.heap.size, 3, none⟩ = some (.slice A3 n3 k3) := (cell_of_row _ _ 3 _ _ (0, 0) kk0).trans rfl
          have a4 : w1.cell? ⟨w.heap.size, 4, none⟩ = some (.slice A4 n4 k4) := (cell_of_row _ _ 4 _ _ (0, 0) kk0).trans rfl
          have a5 : w1.cell? ⟨w.heap.size + 1, 0, none⟩ = some (.int .i64 p) := (cell_of_row _ _ 0 _ _ (0, 0) kk1).trans rfl
          clear hb1 q0
          go_wp2_with (first | (go_at_call 115; (with_reducible refine (q2.out _).mono ?_); rintro e wx ⟨rfl, rfl⟩))
          go_ret
          exact ⟨ret_b (by rw [hv.out]), hbb⟩
    · have zz4 : ((n4 : Int) != p) = true := by rw [bne_iff_ne]; exact z4
      replace q2 := hide q2
      have hv : Hid (summandB p (d0, d1, nm, R3.map (·.2), R4.map (·.2)) = false) := by show _ = _; rw [hval]; simp [*]
      clear hval qe z0 z4 zt zn zm
      go_enter Try.func91, Try.ntmps91
      go_wp2_with fail
      generalize ((w.alloc (.cells #[.slice A0 n0 k0, .slice A1 n1 k1, .string nm, .slice A3 n3 k3, .slice A4 n4 k4] 103)).alloc (.cells #[.int .i64 p] 2)) = W2 at *
      refine q0.out.mono ?_
      rintro e w1 ⟨rfl, hb1⟩
      replace kk0 := (hb1.block _ (by omega)).trans kk0
      replace kk1 := (hb1.block _ (by omega)).trans kk1
      replace hbb := hbb.trans (hb1.mono hbb.size)
      replace hz := Nat.lt_of_lt_of_le hz hb1.size
      have a0 : w1.cell? ⟨w.heap.size, 0, none⟩ = some (.slice A0 n0 k0) := (cell_of_row _ _ 0 _ _ (0, 0) kk0).trans rfl
      have a1 : w1.cell? ⟨w.heap.size, 1, none⟩ = some (.slice A1 n1 k1) := (cell_of_row _ _ 1 _ _ (0, 0) kk0).trans rfl
      have a2 : w1.cell? ⟨w.heap.size, 2, none⟩ = some (.string nm) := (cell_of_row _ _ 2 _ _ (0, 0) kk0).trans rfl
      have a3 : w1.cell? ⟨w.heap.size, 3, none⟩ = some (.slice A3 n3 k3) := (cell_of_row _ _ 3 _ _ (0, 0) kk0).trans rfl
      have a4 : w1.cell? ⟨w.heap.size, 4, none⟩ = some (.slice A4 n4 k4) := (cell_of_row _ _ 4 _ _ (0, 0) kk0).trans rfl
      have a5 : w1.cell? ⟨w.heap.size + 1, 0, none⟩ = some (.int .i64 p) := (cell_of_row _ _ 0 _ _ (0, 0) kk1).trans rfl
      clear hb1 q0
      go_wp2_with (first | (go_at_call 115; (with_reducible refine (q2.out _).mono ?_); rintro e wx ⟨rfl, rfl⟩))
      go_ret
      exact ⟨ret_b (by rw [hv.out]), hbb⟩
  · replace z0 := Bool.eq_false_iff.2 z0
    rw [z0] at q0
    replace q0 := hide q0
    replace q2 := hide q2
    clear l0
    have hv : Hid (summandB p (d0, d1, nm, R3.map (·.2), R4.map (·.2)) = false) := by show _ = _; rw [hval]; simp [*]
    clear hval qe z0 z4 zt zn zm
    go_enter Try.func91, Try.ntmps91
    go_wp2_with fail
    generalize ((w.alloc (.cells #[.slice A0 n0 k0, .slice A1 n1 k1, .string nm, .slice A3 n3 k3, .slice A4 n4 k4] 103)).alloc (.cells #[.int .i64 p] 2)) = W2 at *
    refine q0.out.mono ?_
    rintro e w1 ⟨rfl, hb1⟩
    replace kk0 := (hb1.block _ (by omega)).trans kk0
    replace kk1 := (hb1.block _ (by omega)).trans kk1
    replace hbb := hbb.trans (hb1.mono hbb.size)
    replace hz := Nat.lt_of_lt_of_le hz hb1.size
    have a0 : w1.cell? ⟨w.heap.size, 0, none⟩ = some (.slice A0 n0 k0) := (cell_of_row _ _ 0 _ _ (0, 0) kk0).trans rfl
    have a1 : w1.cell? ⟨w.heap.size, 1, none⟩ = some (.slice A1 n1 k1) := (cell_of_row _ _ 1 _ _ (0, 0) kk0).trans rfl
    have a2 : w1.cell? ⟨w.heap.size, 2, none⟩ = some (.string nm) := (cell_of_row _ _ 2 _ _ (0, 0) kk0).trans rfl
    have a3 : w1.cell? ⟨w.heap.size, 3, none⟩ = some (.slice A3 n3 k3) := (cell_of_row _ _ 3 _ _ (0, 0) kk0).trans rfl
    have a4 : w1.cell? ⟨w.heap.size, 4, none⟩ = some (.slice A4 n4 k4) := (cell_of_row _ _ 4 _ _ (0, 0) kk0).trans rfl
    have a5 : w1.cell? ⟨w.heap.size + 1, 0, none⟩ = some (.int .i64 p) := (cell_of_row _ _ 0 _ _ (0, 0) kk1).trans rfl
    clear hb1 q0
    go_wp2_with (first | (go_at_call 115; (with_reducible refine (q2.out _).mono ?_); rintro e wx ⟨rfl, rfl⟩))
    go_ret
    exact ⟨ret_b (by rw [hv.out]), hbb⟩

end Go.Proofs.Ytdjhpdmpibokhaa
