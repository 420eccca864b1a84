/-
  The law's own marks on plants. Conditions: sizes.
-/
import Derived.Test.YtiaclddgllkgpaaGreatDoorMark
import Derived.Test.YtiaclddgllkgpaaGreatDoorBaseE
namespace Go.Proofs.YtiaclddgllkgpaaGreatDoor
open Go.ChangeShapes Go.WideShapes Go.ChangeAt Go.RowKit
set_option linter.unusedVariables false
set_option linter.unusedSimpArgs false

set_option maxRecDepth 100000 in
theorem markPlant_u {v : Value} {d : DP} {m : Int} {w : World} {lo hi : Nat} (h : FreshP w lo hi v d) (hh : hi ≤ w.heap.size) (h0 : 0 < m) (h1 : m ≤ 549747425280) :
    Calls Tryz.prog 27 #[v, .int .i64 m] w fun e w' => ∃ m', e = .returned (.int .i64 m') ∧ m ≤ m' ∧ m' ≤ m + 8388608 ∧ Only lo hi w w' := by
  obtain ⟨⟨⟨s0, s1, v2, v3⟩, v4, v5, rfl, hL, a0, a1⟩, ht⟩ := h
  obtain ⟨A4, n4, k4, rfl, t4⟩ := a0.long
  obtain ⟨A5, n5, k5, rfl, -, -, t5⟩ := a1
  obtain ⟨dl, vs, ns⟩ := d
  simp only [totP] at ht
  have l4 := t4.len
  have l5 := t5.len
  dsimp only at l4 l5
  have hns := totS_length (l := ns)
  obtain ⟨hn2, hn3⟩ := wr_total (show totL dl ≤ 1048576 by omega)
  have hn4 : n4 ≤ 1048576 := by omega
  have hn5 : n5 ≤ 1048576 := by omega
  have hW := WrL.of hL
  have hW4 := WrS.of t4 flat_iv
  have hW5 := WrS.of t5 flat_strv
  dsimp only at *
  generalize dl.2.2.1.length = n2 at *
  generalize dl.2.2.2.length = n3 at *
  obtain ⟨m, rfl⟩ : ∃ k : Nat, m = (k : Int) := ⟨m.toNat, by omega⟩
  have hb0 : Below w.heap.size w (w.alloc (.cells #[.int .i64 s0, .int .i64 s1, v2, v3, .slice A4 n4 k4, .slice A5 n5 k5] 44)) := (Below.refl _ _).alloc (Nat.le_refl _) _
  have kE := heap_alloc_new w (.cells #[.int .i64 s0, .int .i64 s1, v2, v3, .slice A4 n4 k4, .slice A5 n5 k5] 44)
  have hz : w.heap.size < (w.alloc (.cells #[.int .i64 s0, .int .i64 s1, v2, v3, .slice A4 n4 k4, .slice A5 n5 k5] 44)).heap.size := by rw [World.size_alloc]; omega
  have hk0 := OnlyK.below (lo := lo) (hi := hi) hb0
  have q := hide (markLts_wr s0 s1 v2 v3 n2 n3 m _ lo hi (hW.kept hk0.kept hk0.only.size) hn2 hn3 (by omega) (by omega) (by omega))
  replace hW4 := hide (hW4.kept hk0.kept hk0.only.size)
  replace hW5 := hide (hW5.kept hk0.kept hk0.only.size)
  obtain ⟨A2, k2, rfl, -⟩ := hW.lab
  obtain ⟨A3, k3, rfl, -⟩ := hW.edg
  replace hk0 := hide hk0
  replace kE := hide kE
  have c0 : (w.alloc (.cells #[.int .i64 s0, .int .i64 s1, .slice A2 n2 k2, .slice A3 n3 k3, .slice A4 n4 k4, .slice A5 n5 k5] 44)).cell? ⟨w.heap.size, 0, none⟩ = some (.int .i64 s0) := (cell_of_row _ _ 0 _ _ (0, 0) kE.out).trans rfl
  have c1 : (w.alloc (.cells #[.int .i64 s0, .int .i64 s1, .slice A2 n2 k2, .slice A3 n3 k3, .slice A4 n4 k4, .slice A5 n5 k5] 44)).cell? ⟨w.heap.size, 1, none⟩ = some (.int .i64 s1) := (cell_of_row _ _ 1 _ _ (0, 0) kE.out).trans rfl
  have c2 : (w.alloc (.cells #[.int .i64 s0, .int .i64 s1, .slice A2 n2 k2, .slice A3 n3 k3, .slice A4 n4 k4, .slice A5 n5 k5] 44)).cell? ⟨w.heap.size, 2, none⟩ = some (.slice A2 n2 k2) := (cell_of_row _ _ 2 _ _ (0, 0) kE.out).trans rfl
  have c3 : (w.alloc (.cells #[.int .i64 s0, .int .i64 s1, .slice A2 n2 k2, .slice A3 n3 k3, .slice A4 n4 k4, .slice A5 n5 k5] 44)).cell? ⟨w.heap.size, 3, none⟩ = some (.slice A3 n3 k3) := (cell_of_row _ _ 3 _ _ (0, 0) kE.out).trans rfl
  clear hL a0 t4 t5 hW hb0 ht l4 l5 hns
  go_enter Tryz.func27, Tryz.ntmps27
  go_wp2_with fail
  refine q.out.mono ?_
  rintro e w1 ⟨rfl, hk1⟩
  have kF := (hk1.only.block _ hz (.inr hh)).trans kE.out
  clear c0 c1 c2 c3
  have c4 : w1.cell? ⟨w.heap.size, 4, none⟩ = some (.slice A4 n4 k4) := (cell_of_row _ _ 4 _ _ (0, 0) kF).trans rfl
  have q2 := hide (markInt64S_wr A4 n4 k4 (m + n2 + 3 * n3) w1 lo hi (hW4.out.kept hk1.kept hk1.only.size) hn4 (by omega) (by omega))
  replace hW5 := hW5.out.kept hk1.kept hk1.only.size
  have hk01 := hk0.out.trans hk1
  replace kF := hide kF
  replace hW5 := hide hW5
  clear hk1 hk0 kE q hW4
  go_wp2_with fail
  refine q2.out.mono ?_
  rintro e w2 ⟨rfl, hk2⟩
  have hz1 : w.heap.size < w1.heap.size := by
    have := kF.out
    exact (Array.getElem?_eq_some_iff.1 this).1
  have kG := (hk2.only.block _ hz1 (.inr hh)).trans kF.out
  clear c4
  have c5 : w2.cell? ⟨w.heap.size, 5, none⟩ = some (.slice A5 n5 k5) := (cell_of_row _ _ 5 _ _ (0, 0) kG).trans rfl
  have q3 := hide (markStringS_wr A5 n5 k5 (m + n2 + 3 * n3 + n4) w2 lo hi (hW5.out.kept hk2.kept hk2.only.size) hn5 (by omega) (by omega))
  have hk02 := hide (hk01.trans hk2)
  clear hk2 kF kG hW5 q2 hk01
  go_wp2_with fail
  refine q3.out.mono ?_
  rintro e w3 ⟨rfl, hk3⟩
  have hk03 := hide (hk02.out.trans hk3)
  clear hk3 c5
  go_wp2_with fail
  go_ret
  exact ⟨_, rfl, by omega, by omega, hk03.out.only⟩

theorem ArgP.only {w w' : World} {lo hi lo' hi' : Nat} {v : Value} {d : DP} (h : ArgP w lo hi v d) (g : Only lo' hi' w w') (hd : hi ≤ lo' ∨ hi' ≤ lo) : ArgP w' lo hi v d := by
  obtain ⟨x, v4, v5, e, h1, a0, a1⟩ := h
  exact ⟨x, v4, v5, e, h1.only g hd, a0.only g hd, a1.only g hd⟩
theorem FreshP.only {w w' : World} {lo hi lo' hi' : Nat} {v : Value} {d : DP} (h : FreshP w lo hi v d) (g : Only lo' hi' w w') (hd : hi ≤ lo' ∨ hi' ≤ lo) : FreshP w' lo hi v d := ⟨h.1.only g hd, h.2⟩

end Go.Proofs.YtiaclddgllkgpaaGreatDoor
