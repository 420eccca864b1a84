/-
  All pairs that are reached, by the program. Conditions: sizes; both systems are valid and deterministic.
-/
import Derived.Test.YtiaclddgllkgpaaGreatDoorNextI
import Derived.Carry
import Derived.Laws.EntriesVeiled
namespace Go.Proofs.YtiaclddgllkgpaaGreatDoor
open Go.ChangeShapes Go.WideShapes Go.ChangeAt Go.RowKit Go.Sort
set_option linter.unusedVariables false
set_option linter.unusedSimpArgs false

def GotT (w : World) (v : TV) (R : List PQ) (e : Ending) (w' : World) : Prop :=
  ∃ (X M n c d : Nat) (A C : Option Addr) (G : List (Nat × PR)) (H : List (Hd × List ByteArray)), e = .returned (.pointer (some ⟨X, 0, none⟩)) ∧ TogS w' w.heap.size X M v A n c G C d H R ∧ Below w.heap.size w w'

structure InvG (w wr : World) (X M bX bF bI : Nat) (v : TV) (p s : DL) (k : Nat) (A C : Option Addr) (n c d : Nat) (G : List (Nat × PR)) (H : List (Hd × List ByteArray)) (R : List PQ) : Prop where
  st : TogS wr w.heap.size X M v A n c G C d H R
  kX : wr.heap[bX]? = some (.cells #[.pointer (some ⟨X, 0, none⟩)] 112 (0, 0))
  kF : wr.heap[bF]? = some (.cells #[.func (.func 147) #[] #[.pointer (some ⟨bX, 0, none⟩)]] 173 (0, 0))
  kI : wr.heap[bI]? = some (.cells #[.int .i64 (k : Int)] 3 (0, 0))
  at_ : AtR p s k R
  bel : Below w.heap.size w wr

set_option maxRecDepth 100000 in
set_option maxHeartbeats 3200000 in
theorem goTogether_calls (p0 p1 r0 r1 : Int) (A2 A3 A4 A5 B2 B3 : Option Addr) (n2 k2 n3 k3 n4 k4 n5 k5 m2 j2 m3 j3 : Nat) (ls ms : List ByteArray) (es fs : List Ed) (w : World) (lo hi lo' hi' : Nat)
    (t2 : SlS w lo hi A2 n2 ls) (t3 : SlE w lo hi A3 n3 es) (hhi : hi ≤ w.heap.size) (u2 : SlS w lo' hi' B2 m2 ms) (u3 : SlE w lo' hi' B3 m3 fs) (hhi' : hi' ≤ w.heap.size)
    (hes : n3 ≤ 1048576) (hfs : m3 ≤ 1048576) (hms : m2 ≤ 1048576) (hv : detV (p0, p1, ls, es) = true) (hs : detV (r0, r1, ms, fs) = true) :
    Calls Tryz.prog 109 #[.agg #[.int .i64 p0, .int .i64 p1, .slice A2 n2 k2, .slice A3 n3 k3, .slice A4 n4 k4, .slice A5 n5 k5], .agg #[.int .i64 r0, .int .i64 r1, .slice B2 m2 j2, .slice B3 m3 j3]] w
      (GotT w (tvOf p0 p1 A2 n2 k2 A3 n3 k3 A4 n4 k4 A5 n5 k5 r0 r1 B2 m2 j2 B3 m3 j3) (allR (p0, p1, ls, es) (r0, r1, ms, fs))) := by
  have hbP := lts_boundsA (det_ltsA hv)
  have hbS := lts_boundsA (det_ltsA hs)
  have hp4 : p0 ≤ 40 := hbP.1.2
  have hs4 : r0 ≤ 40 := hbS.1.2
  have hpi : 0 ≤ p1 ∧ p1 < p0 := by omega
  have hsi : 0 ≤ r1 ∧ r1 < r0 := by omega
  have k0 : ((w.alloc (.cells #[.int .i64 p0, .int .i64 p1, .slice A2 n2 k2, .slice A3 n3 k3, .slice A4 n4 k4, .slice A5 n5 k5] 44)).alloc (.cells #[.int .i64 r0, .int .i64 r1, .slice B2 m2 j2, .slice B3 m3 j3] 33)).heap[w.heap.size]? = some (.cells #[.int .i64 p0, .int .i64 p1, .slice A2 n2 k2, .slice A3 n3 k3, .slice A4 n4 k4, .slice A5 n5 k5] 44 (0, 0)) := (Below.heap_alloc _ _ _ (by rw [World.size_alloc]; omega)).trans (heap_alloc_new w _)
  have k1 : ((w.alloc (.cells #[.int .i64 p0, .int .i64 p1, .slice A2 n2 k2, .slice A3 n3 k3, .slice A4 n4 k4, .slice A5 n5 k5] 44)).alloc (.cells #[.int .i64 r0, .int .i64 r1, .slice B2 m2 j2, .slice B3 m3 j3] 33)).heap[w.heap.size + 1]? = some (.cells #[.int .i64 r0, .int .i64 r1, .slice B2 m2 j2, .slice B3 m3 j3] 33 (0, 0)) := by have h := heap_alloc_new (w.alloc (.cells #[.int .i64 p0, .int .i64 p1, .slice A2 n2 k2, .slice A3 n3 k3, .slice A4 n4 k4, .slice A5 n5 k5] 44)) (.cells #[.int .i64 r0, .int .i64 r1, .slice B2 m2 j2, .slice B3 m3 j3] 33); rw [World.size_alloc] at h; exact h
  have hb0 : Below w.heap.size w ((w.alloc (.cells #[.int .i64 p0, .int .i64 p1, .slice A2 n2 k2, .slice A3 n3 k3, .slice A4 n4 k4, .slice A5 n5 k5] 44)).alloc (.cells #[.int .i64 r0, .int .i64 r1, .slice B2 m2 j2, .slice B3 m3 j3] 33)) := ((Below.refl _ _).alloc (Nat.le_refl _) _).alloc (by rw [World.size_alloc]; omega) _
  have hz0 : ((w.alloc (.cells #[.int .i64 p0, .int .i64 p1, .slice A2 n2 k2, .slice A3 n3 k3, .slice A4 n4 k4, .slice A5 n5 k5] 44)).alloc (.cells #[.int .i64 r0, .int .i64 r1, .slice B2 m2 j2, .slice B3 m3 j3] 33)).heap.size = w.heap.size + 2 := by rw [World.size_alloc, World.size_alloc]
  have q0 : ∀ i (h : i < 6), ((w.alloc (.cells #[.int .i64 p0, .int .i64 p1, .slice A2 n2 k2, .slice A3 n3 k3, .slice A4 n4 k4, .slice A5 n5 k5] 44)).alloc (.cells #[.int .i64 r0, .int .i64 r1, .slice B2 m2 j2, .slice B3 m3 j3] 33)).cell? ⟨w.heap.size, i, none⟩ = #[Value.int .i64 p0, .int .i64 p1, .slice A2 n2 k2, .slice A3 n3 k3, .slice A4 n4 k4, .slice A5 n5 k5][i]? := fun i h => cell_of_row _ _ i _ _ (0, 0) k0
  have a0 : ((w.alloc (.cells #[.int .i64 p0, .int .i64 p1, .slice A2 n2 k2, .slice A3 n3 k3, .slice A4 n4 k4, .slice A5 n5 k5] 44)).alloc (.cells #[.int .i64 r0, .int .i64 r1, .slice B2 m2 j2, .slice B3 m3 j3] 33)).cell? ⟨w.heap.size, 0, none⟩ = some (.int .i64 p0) := (cell_of_row _ _ 0 _ _ (0, 0) k0).trans rfl
  have a1 : ((w.alloc (.cells #[.int .i64 p0, .int .i64 p1, .slice A2 n2 k2, .slice A3 n3 k3, .slice A4 n4 k4, .slice A5 n5 k5] 44)).alloc (.cells #[.int .i64 r0, .int .i64 r1, .slice B2 m2 j2, .slice B3 m3 j3] 33)).cell? ⟨w.heap.size, 1, none⟩ = some (.int .i64 p1) := (cell_of_row _ _ 1 _ _ (0, 0) k0).trans rfl
  have a2 : ((w.alloc (.cells #[.int .i64 p0, .int .i64 p1, .slice A2 n2 k2, .slice A3 n3 k3, .slice A4 n4 k4, .slice A5 n5 k5] 44)).alloc (.cells #[.int .i64 r0, .int .i64 r1, .slice B2 m2 j2, .slice B3 m3 j3] 33)).cell? ⟨w.heap.size, 2, none⟩ = some (.slice A2 n2 k2) := (cell_of_row _ _ 2 _ _ (0, 0) k0).trans rfl
  have a3 : ((w.alloc (.cells #[.int .i64 p0, .int .i64 p1, .slice A2 n2 k2, .slice A3 n3 k3, .slice A4 n4 k4, .slice A5 n5 k5] 44)).alloc (.cells #[.int .i64 r0, .int .i64 r1, .slice B2 m2 j2, .slice B3 m3 j3] 33)).cell? ⟨w.heap.size, 3, none⟩ = some (.slice A3 n3 k3) := (cell_of_row _ _ 3 _ _ (0, 0) k0).trans rfl
  have a4 : ((w.alloc (.cells #[.int .i64 p0, .int .i64 p1, .slice A2 n2 k2, .slice A3 n3 k3, .slice A4 n4 k4, .slice A5 n5 k5] 44)).alloc (.cells #[.int .i64 r0, .int .i64 r1, .slice B2 m2 j2, .slice B3 m3 j3] 33)).cell? ⟨w.heap.size, 4, none⟩ = some (.slice A4 n4 k4) := (cell_of_row _ _ 4 _ _ (0, 0) k0).trans rfl
  have a5 : ((w.alloc (.cells #[.int .i64 p0, .int .i64 p1, .slice A2 n2 k2, .slice A3 n3 k3, .slice A4 n4 k4, .slice A5 n5 k5] 44)).alloc (.cells #[.int .i64 r0, .int .i64 r1, .slice B2 m2 j2, .slice B3 m3 j3] 33)).cell? ⟨w.heap.size, 5, none⟩ = some (.slice A5 n5 k5) := (cell_of_row _ _ 5 _ _ (0, 0) k0).trans rfl
  have b0 : ((w.alloc (.cells #[.int .i64 p0, .int .i64 p1, .slice A2 n2 k2, .slice A3 n3 k3, .slice A4 n4 k4, .slice A5 n5 k5] 44)).alloc (.cells #[.int .i64 r0, .int .i64 r1, .slice B2 m2 j2, .slice B3 m3 j3] 33)).cell? ⟨w.heap.size + 1, 0, none⟩ = some (.int .i64 r0) := (cell_of_row _ _ 0 _ _ (0, 0) k1).trans rfl
  have b1 : ((w.alloc (.cells #[.int .i64 p0, .int .i64 p1, .slice A2 n2 k2, .slice A3 n3 k3, .slice A4 n4 k4, .slice A5 n5 k5] 44)).alloc (.cells #[.int .i64 r0, .int .i64 r1, .slice B2 m2 j2, .slice B3 m3 j3] 33)).cell? ⟨w.heap.size + 1, 1, none⟩ = some (.int .i64 r1) := (cell_of_row _ _ 1 _ _ (0, 0) k1).trans rfl
  have b2 : ((w.alloc (.cells #[.int .i64 p0, .int .i64 p1, .slice A2 n2 k2, .slice A3 n3 k3, .slice A4 n4 k4, .slice A5 n5 k5] 44)).alloc (.cells #[.int .i64 r0, .int .i64 r1, .slice B2 m2 j2, .slice B3 m3 j3] 33)).cell? ⟨w.heap.size + 1, 2, none⟩ = some (.slice B2 m2 j2) := (cell_of_row _ _ 2 _ _ (0, 0) k1).trans rfl
  have b3 : ((w.alloc (.cells #[.int .i64 p0, .int .i64 p1, .slice A2 n2 k2, .slice A3 n3 k3, .slice A4 n4 k4, .slice A5 n5 k5] 44)).alloc (.cells #[.int .i64 r0, .int .i64 r1, .slice B2 m2 j2, .slice B3 m3 j3] 33)).cell? ⟨w.heap.size + 1, 3, none⟩ = some (.slice B3 m3 j3) := (cell_of_row _ _ 3 _ _ (0, 0) k1).trans rfl
  replace t2 := hide t2
  replace t3 := hide t3
  replace u2 := hide u2
  replace u3 := hide u3
  replace k0 := hide k0
  replace k1 := hide k1
  replace hb0 := hide hb0
  clear q0
  have hz0' := hide hz0
  clear hz0
  have hmm := @run_makeMap Tryz.prog
  go_enter Tryz.func109, Tryz.ntmps109
  go_upto_region 1 with fail
  generalize ((w.alloc (.cells #[.int .i64 p0, .int .i64 p1, .slice A2 n2 k2, .slice A3 n3 k3, .slice A4 n4 k4, .slice A5 n5 k5] 44)).alloc (.cells #[.int .i64 r0, .int .i64 r1, .slice B2 m2 j2, .slice B3 m3 j3] 33)) = W0 at *
  go_upto_region 3 with fail
  clear hmm
  have z1 : (W0.alloc (.map #[] 0)).heap.size = W0.heap.size + 1 := World.size_alloc _ _
  have z2 : ((W0.alloc (.map #[] 0)).alloc (.cells #[.int .i64 p0, .int .i64 p1, .slice A2 n2 k2, .slice A3 n3 k3, .slice A4 n4 k4, .slice A5 n5 k5, .int .i64 r0, .int .i64 r1, .slice B2 m2 j2, .slice B3 m3 j3, .slice none 0 0, .map (some W0.heap.size), .slice none 0 0] 117)).heap.size = W0.heap.size + 1 + 1 := by rw [World.size_alloc, z1]
  have z3 : (((W0.alloc (.map #[] 0)).alloc (.cells #[.int .i64 p0, .int .i64 p1, .slice A2 n2 k2, .slice A3 n3 k3, .slice A4 n4 k4, .slice A5 n5 k5, .int .i64 r0, .int .i64 r1, .slice B2 m2 j2, .slice B3 m3 j3, .slice none 0 0, .map (some W0.heap.size), .slice none 0 0] 117)).alloc (.cells #[.pointer (some ⟨W0.heap.size + 1, 0, none⟩)] 112)).heap.size = W0.heap.size + 1 + 1 + 1 := by rw [World.size_alloc, z2]
  have z4 : ((((W0.alloc (.map #[] 0)).alloc (.cells #[.int .i64 p0, .int .i64 p1, .slice A2 n2 k2, .slice A3 n3 k3, .slice A4 n4 k4, .slice A5 n5 k5, .int .i64 r0, .int .i64 r1, .slice B2 m2 j2, .slice B3 m3 j3, .slice none 0 0, .map (some W0.heap.size), .slice none 0 0] 117)).alloc (.cells #[.pointer (some ⟨W0.heap.size + 1, 0, none⟩)] 112)).alloc (.cells #[.func (.func 147) #[] #[.pointer (some ⟨W0.heap.size + 1 + 1, 0, none⟩)]] 173)).heap.size = W0.heap.size + 1 + 1 + 1 + 1 := by rw [World.size_alloc, z3]
  have kM := MapP.made W0
  have kT := heap_alloc_new (W0.alloc (.map #[] 0)) (.cells #[.int .i64 p0, .int .i64 p1, .slice A2 n2 k2, .slice A3 n3 k3, .slice A4 n4 k4, .slice A5 n5 k5, .int .i64 r0, .int .i64 r1, .slice B2 m2 j2, .slice B3 m3 j3, .slice none 0 0, .map (some W0.heap.size), .slice none 0 0] 117)
  rw [z1] at kT
  have kX := heap_alloc_new ((W0.alloc (.map #[] 0)).alloc (.cells #[.int .i64 p0, .int .i64 p1, .slice A2 n2 k2, .slice A3 n3 k3, .slice A4 n4 k4, .slice A5 n5 k5, .int .i64 r0, .int .i64 r1, .slice B2 m2 j2, .slice B3 m3 j3, .slice none 0 0, .map (some W0.heap.size), .slice none 0 0] 117)) (.cells #[.pointer (some ⟨W0.heap.size + 1, 0, none⟩)] 112)
  rw [z2] at kX
  have kF := heap_alloc_new (((W0.alloc (.map #[] 0)).alloc (.cells #[.int .i64 p0, .int .i64 p1, .slice A2 n2 k2, .slice A3 n3 k3, .slice A4 n4 k4, .slice A5 n5 k5, .int .i64 r0, .int .i64 r1, .slice B2 m2 j2, .slice B3 m3 j3, .slice none 0 0, .map (some W0.heap.size), .slice none 0 0] 117)).alloc (.cells #[.pointer (some ⟨W0.heap.size + 1, 0, none⟩)] 112)) (.cells #[.func (.func 147) #[] #[.pointer (some ⟨W0.heap.size + 1 + 1, 0, none⟩)]] 173)
  rw [z3] at kF
  have hb4 : Below W0.heap.size W0 ((((W0.alloc (.map #[] 0)).alloc (.cells #[.int .i64 p0, .int .i64 p1, .slice A2 n2 k2, .slice A3 n3 k3, .slice A4 n4 k4, .slice A5 n5 k5, .int .i64 r0, .int .i64 r1, .slice B2 m2 j2, .slice B3 m3 j3, .slice none 0 0, .map (some W0.heap.size), .slice none 0 0] 117)).alloc (.cells #[.pointer (some ⟨W0.heap.size + 1, 0, none⟩)] 112)).alloc (.cells #[.func (.func 147) #[] #[.pointer (some ⟨W0.heap.size + 1 + 1, 0, none⟩)]] 173)) := (((((Below.refl _ _).alloc (Nat.le_refl _) _).alloc (by rw [z1]; omega) _).alloc (by rw [z2]; omega) _).alloc (by rw [z3]; omega) _)
  have y1 := (hb4.cell (p := ⟨w.heap.size, 1, none⟩) (by have := hz0'.out; show w.heap.size < _; omega)).trans a1
  have y2 := (hb4.cell (p := ⟨w.heap.size + 1, 1, none⟩) (by have := hz0'.out; show w.heap.size + 1 < _; omega)).trans b1
  have kM4 := kM.keep (w' := ((((W0.alloc (.map #[] 0)).alloc (.cells #[.int .i64 p0, .int .i64 p1, .slice A2 n2 k2, .slice A3 n3 k3, .slice A4 n4 k4, .slice A5 n5 k5, .int .i64 r0, .int .i64 r1, .slice B2 m2 j2, .slice B3 m3 j3, .slice none 0 0, .map (some W0.heap.size), .slice none 0 0] 117)).alloc (.cells #[.pointer (some ⟨W0.heap.size + 1, 0, none⟩)] 112)).alloc (.cells #[.func (.func 147) #[] #[.pointer (some ⟨W0.heap.size + 1 + 1, 0, none⟩)]] 173))) (((Below.heap_alloc (((W0.alloc (.map #[] 0)).alloc (.cells #[.int .i64 p0, .int .i64 p1, .slice A2 n2 k2, .slice A3 n3 k3, .slice A4 n4 k4, .slice A5 n5 k5, .int .i64 r0, .int .i64 r1, .slice B2 m2 j2, .slice B3 m3 j3, .slice none 0 0, .map (some W0.heap.size), .slice none 0 0] 117)).alloc (.cells #[.pointer (some ⟨W0.heap.size + 1, 0, none⟩)] 112)) (.cells #[.func (.func 147) #[] #[.pointer (some ⟨W0.heap.size + 1 + 1, 0, none⟩)]] 173) _ (by omega)).trans (Below.heap_alloc ((W0.alloc (.map #[] 0)).alloc (.cells #[.int .i64 p0, .int .i64 p1, .slice A2 n2 k2, .slice A3 n3 k3, .slice A4 n4 k4, .slice A5 n5 k5, .int .i64 r0, .int .i64 r1, .slice B2 m2 j2, .slice B3 m3 j3, .slice none 0 0, .map (some W0.heap.size), .slice none 0 0] 117)) (.cells #[.pointer (some ⟨W0.heap.size + 1, 0, none⟩)] 112) _ (by omega))).trans (Below.heap_alloc (W0.alloc (.map #[] 0)) (.cells #[.int .i64 p0, .int .i64 p1, .slice A2 n2 k2, .slice A3 n3 k3, .slice A4 n4 k4, .slice A5 n5 k5, .int .i64 r0, .int .i64 r1, .slice B2 m2 j2, .slice B3 m3 j3, .slice none 0 0, .map (some W0.heap.size), .slice none 0 0] 117) _ (by omega)))
  have kT4 := ((Below.heap_alloc (((W0.alloc (.map #[] 0)).alloc (.cells #[.int .i64 p0, .int .i64 p1, .slice A2 n2 k2, .slice A3 n3 k3, .slice A4 n4 k4, .slice A5 n5 k5, .int .i64 r0, .int .i64 r1, .slice B2 m2 j2, .slice B3 m3 j3, .slice none 0 0, .map (some W0.heap.size), .slice none 0 0] 117)).alloc (.cells #[.pointer (some ⟨W0.heap.size + 1, 0, none⟩)] 112)) (.cells #[.func (.func 147) #[] #[.pointer (some ⟨W0.heap.size + 1 + 1, 0, none⟩)]] 173) _ (by omega)).trans (Below.heap_alloc ((W0.alloc (.map #[] 0)).alloc (.cells #[.int .i64 p0, .int .i64 p1, .slice A2 n2 k2, .slice A3 n3 k3, .slice A4 n4 k4, .slice A5 n5 k5, .int .i64 r0, .int .i64 r1, .slice B2 m2 j2, .slice B3 m3 j3, .slice none 0 0, .map (some W0.heap.size), .slice none 0 0] 117)) (.cells #[.pointer (some ⟨W0.heap.size + 1, 0, none⟩)] 112) _ (by omega))).trans kT
  have kX4 := (Below.heap_alloc (((W0.alloc (.map #[] 0)).alloc (.cells #[.int .i64 p0, .int .i64 p1, .slice A2 n2 k2, .slice A3 n3 k3, .slice A4 n4 k4, .slice A5 n5 k5, .int .i64 r0, .int .i64 r1, .slice B2 m2 j2, .slice B3 m3 j3, .slice none 0 0, .map (some W0.heap.size), .slice none 0 0] 117)).alloc (.cells #[.pointer (some ⟨W0.heap.size + 1, 0, none⟩)] 112)) (.cells #[.func (.func 147) #[] #[.pointer (some ⟨W0.heap.size + 1 + 1, 0, none⟩)]] 173) _ (by omega)).trans kX
  have hst : TogS ((((W0.alloc (.map #[] 0)).alloc (.cells #[.int .i64 p0, .int .i64 p1, .slice A2 n2 k2, .slice A3 n3 k3, .slice A4 n4 k4, .slice A5 n5 k5, .int .i64 r0, .int .i64 r1, .slice B2 m2 j2, .slice B3 m3 j3, .slice none 0 0, .map (some W0.heap.size), .slice none 0 0] 117)).alloc (.cells #[.pointer (some ⟨W0.heap.size + 1, 0, none⟩)] 112)).alloc (.cells #[.func (.func 147) #[] #[.pointer (some ⟨W0.heap.size + 1 + 1, 0, none⟩)]] 173)) w.heap.size (W0.heap.size + 1) W0.heap.size (tvOf p0 p1 A2 n2 k2 A3 n3 k3 A4 n4 k4 A5 n5 k5 r0 r1 B2 m2 j2 B3 m3 j3) none 0 0 [] none 0 [] [] :=
    ⟨by have := hz0'.out; omega, kT4, ⟨Own.nil_ _ _ _, fun _ h => (List.not_mem_nil h).elim, List.nodup_nil⟩, ⟨Own.nil_ _ _ _, fun _ h => (List.not_mem_nil h).elim⟩, ⟨_, kM4, fun q => by simp⟩, by have := hz0'.out; omega, rfl, rfl⟩
  have hbw4 := hb0.out.trans (hb4.mono hb0.out.size)
  clear kM kM4 kT kT4 kX hb4 a0 a2 a3 a4 a5 b0 b2 b3 a1 b1 k0 k1 hb0 z1 z2 z3 z4 hz0'
  generalize ((((W0.alloc (.map #[] 0)).alloc (.cells #[.int .i64 p0, .int .i64 p1, .slice A2 n2 k2, .slice A3 n3 k3, .slice A4 n4 k4, .slice A5 n5 k5, .int .i64 r0, .int .i64 r1, .slice B2 m2 j2, .slice B3 m3 j3, .slice none 0 0, .map (some W0.heap.size), .slice none 0 0] 117)).alloc (.cells #[.pointer (some ⟨W0.heap.size + 1, 0, none⟩)] 112)).alloc (.cells #[.func (.func 147) #[] #[.pointer (some ⟨W0.heap.size + 1 + 1, 0, none⟩)]] 173)) = W4 at *
  generalize W0.heap.size = M at *
  have hst0 := hide (AtR.start (p := (p0, p1, ls, es)) (s := (r0, r1, ms, fs)) hpi hsi)
  have xF : W4.cell? ⟨M + 1 + 1 + 1, 0, none⟩ = some (.func (.func 147) #[] #[.pointer (some ⟨M + 1 + 1, 0, none⟩)]) := (cell_of_row _ _ 0 _ _ (0, 0) kF).trans rfl
  have qf := hide (find_calls w.heap.size (M + 1) M (M + 1 + 1) (tvOf p0 p1 A2 n2 k2 A3 n3 k3 A4 n4 k4 A5 n5 k5 r0 r1 B2 m2 j2 B3 m3 j3) none none 0 0 0 [] [] [] p1 r1 none 0 0 [] W4 hst kX4 (Own.nil_ _ _ _) (fit_of (by omega) (by omega) (by omega) (by omega)) (by omega) hbw4.size)
  replace hst := hide hst
  replace kX4 := hide kX4
  replace kF := hide kF
  replace hbw4 := hide hbw4
  clear hpi hsi
  go_wp2_with fail
  go_at_call 147
  refine qf.out.mono ?_
  rintro e W5 ⟨A, C, n, c, d, G, H, rfl, hT5, hbut5, hnew5⟩
  have kX5 := hbut5.kept kX4.out (hst.out.other kX4.out (by decide) (by decide) (by decide))
  have kF5 := hbut5.kept kF.out (hst.out.other kF.out (by decide) (by decide) (by decide))
  have hbw5 := hbw4.out.trans (hbut5.below hst.out.low hbw4.out.size)
  have hR5 : addP [] (p1, r1) ([] : List ByteArray) = startR (p0, p1, ls, es) (r0, r1, ms, fs) := by simp [addP, startR]
  rw [hR5] at hT5
  clear hbut5 hnew5 hst kX4 kF hbw4 qf xF y1 y2 hR5
  replace hT5 := hide hT5
  replace kX5 := hide kX5
  replace kF5 := hide kF5
  replace hbw5 := hide hbw5
  generalize M + 1 + 1 + 1 = bF at *
  generalize M + 1 + 1 = bX at *
  generalize M + 1 = X at *
  go_upto_region 5 with fail
  go_loopg [7] 1601 (fun gk iv wr => ∃ (bI k n c d : Nat) (A C : Option Addr) (G : List (Nat × PR)) (H : List (Hd × List ByteArray)) (R : List PQ), iv = .pointer (some ⟨bI, 0, none⟩) ∧ Hid (InvG w wr X M bX bF bI (tvOf p0 p1 A2 n2 k2 A3 n3 k3 A4 n4 k4 A5 n5 k5 r0 r1 B2 m2 j2 B3 m3 j3) (p0, p1, ls, es) (r0, r1, ms, fs) k A C n c d G H R) ∧ Hid (1601 - k ≤ gk))
  case atStart =>
    have hba : Below W5.heap.size W5 (W5.alloc (.cells #[.int .i64 0] 3)) := (Below.refl _ _).alloc (Nat.le_refl _) _
    exact ⟨W5.heap.size, 0, n, c, d, A, C, G, H, _, rfl, ⟨hT5.out.below hba, (Below.heap_alloc _ _ _ (Array.getElem?_eq_some_iff.1 kX5.out).1).trans kX5.out, (Below.heap_alloc _ _ _ (Array.getElem?_eq_some_iff.1 kF5.out).1).trans kF5.out, heap_alloc_new W5 _, hst0.out, hbw5.out.alloc hbw5.out.size _⟩, by show _ ≤ _; omega⟩
  case round =>
    clear hT5 kX5 kF5 hbw5 hst0
    obtain ⟨bI, k, n, c, d, A, C, G, H, R, rfl, hI, hG⟩ := hrel
    have hRl := hI.out.at_.good.len hp4 hs4
    have hnR := hide hI.out.st.len
    have hk := hI.out.at_.le
    have hn16 : n ≤ 1600 := by rw [← hnR.out]; exact hRl
    have hkn : k ≤ n := by rw [← hnR.out]; exact hk
    have x0 : wr.cell? ⟨bX, 0, none⟩ = some (.pointer (some ⟨X, 0, none⟩)) := (cell_of_row _ _ 0 _ _ (0, 0) hI.out.kX).trans rfl
    have xI : wr.cell? ⟨bI, 0, none⟩ = some (.int .i64 (k : Int)) := (cell_of_row _ _ 0 _ _ (0, 0) hI.out.kI).trans rfl
    have x10 := hI.out.st.f10
    by_cases hlt : k < n
    · obtain ⟨G2, rfl⟩ : ∃ G2, gk = G2 + 1 := ⟨gk - 1, by have := hG.out; omega⟩
      have hG2 : Hid (1601 - (k + 1) ≤ G2) := by have := hG.out; show _ ≤ _; omega
      obtain ⟨q, hq⟩ : ∃ q, R[k]? = some q := ⟨_, List.getElem?_eq_getElem (by rw [hnR.out]; exact hlt)⟩
      obtain ⟨br, or_, g, rfl, gbr, -, hGk, gg, f4, -, -⟩ := hI.out.st.gp.at_ (k := k) (q := q.1) (by rw [hI.out.st.eq, List.getElem?_map, hq]; rfl)
      have hK0 : (0 : Int) ≤ (k : Int) := by omega
      have hK1 : (k : Int) < (n : Int) := by omega
      have hq' := hide hq
      have hGk' := hide hGk
      clear hq hGk
      go_wp2
      go_quiet (fail)
      go_upto_region 7 with fail
      have hbq : Below wr.heap.size wr (wr.drewN nq) := ⟨rfl, rfl, rfl, Nat.le_refl _, fun _ _ => rfl⟩
      have hIq : Hid (InvG w (wr.drewN nq) X M bX bF bI (tvOf p0 p1 A2 n2 k2 A3 n3 k3 A4 n4 k4 A5 n5 k5 r0 r1 B2 m2 j2 B3 m3 j3) (p0, p1, ls, es) (r0, r1, ms, fs) k (some ⟨br, or_, none⟩) C n c d G H R) := ⟨hI.out.st.below hbq, hI.out.kX, hI.out.kF, hI.out.kI, hI.out.at_, ⟨hI.out.bel.os, hI.out.bel.tape, hI.out.bel.output, hI.out.bel.size, hI.out.bel.block⟩⟩
      replace x0 : (wr.drewN nq).cell? ⟨bX, 0, none⟩ = some (.pointer (some ⟨X, 0, none⟩)) := x0
      replace xI : (wr.drewN nq).cell? ⟨bI, 0, none⟩ = some (.int .i64 (k : Int)) := xI
      replace x10 : (wr.drewN nq).cell? ⟨X, 10, none⟩ = some (.slice (some ⟨br, or_, none⟩) n c) := x10
      replace f4 : (wr.drewN nq).cell? ⟨br, or_ + k, none⟩ = some (.slice (some ⟨g, 0, none⟩) 2 2) := f4
      clear hI hbq
      generalize wr.drewN nq = wq at *
      have hstd := hIq.out.st.kept (w' := wq.drew) fun _ _ => rfl
      have hbd : Below w.heap.size w wq.drew := hIq.out.bel.drew
      have kP := (hIq.out.st.gp.rows _ (List.mem_of_getElem? hGk'.out)).2
      have qn := hide (next_calls w.heap.size X M bX bF bI g k p0 p1 r0 r1 A2 A3 A4 A5 B2 B3 n2 k2 n3 k3 n4 k4 n5 k5 m2 j2 m3 j3 ls ms es fs _ C n c d G H R q wq.drew lo hi lo' hi' hstd ⟨hIq.out.kX, hIq.out.kF, hIq.out.kI, kP⟩
        (t2.out.below hbd (.inl hhi)) (t3.out.below hbd (.inl hhi)) hhi (u2.out.below hbd (.inl hhi')) (u3.out.below hbd (.inl hhi')) hhi' hes hfs hms hv hs hIq.out.at_ hq'.out hbd.size)
      clear hstd hbd kP
      refine lateT_begin (S := fun w' => w'.cell? ⟨bX, 0, none⟩ = some (.pointer (some ⟨X, 0, none⟩)) ∧ w'.cell? ⟨X, 10, none⟩ = some (.slice (some ⟨br, or_, none⟩) n c) ∧ w'.cell? ⟨bI, 0, none⟩ = some (.int .i64 (k : Int)) ∧ w'.cell? ⟨br, or_ + k, none⟩ = some (.slice (some ⟨g, 0, none⟩) 2 2)) (st := 9) (by kernel_rfl) ?_
      have hS0 : (fun w' : World => w'.cell? ⟨bX, 0, none⟩ = some (.pointer (some ⟨X, 0, none⟩)) ∧ w'.cell? ⟨X, 10, none⟩ = some (.slice (some ⟨br, or_, none⟩) n c) ∧ w'.cell? ⟨bI, 0, none⟩ = some (.int .i64 (k : Int)) ∧ w'.cell? ⟨br, or_ + k, none⟩ = some (.slice (some ⟨g, 0, none⟩) 2 2)) wq.drew := ⟨x0, x10, xI, f4⟩
      refine lateT_take (i := 0) (oi := _) (v := ?_) [9] rfl (by kernel_rfl) (by kernel_rfl) (by kernel_rfl) (by kernel_rfl) (fun _ _ _ h => h) (Or.inl ⟨by rfl, ?hy⟩) hS0 ?_
      case hy => (intro w hSw; (try dsimp only at hSw); go_simp <;> with_reducible rfl)
      (try simp only [Act.put, List.setIfInBounds_toArray, List.set_cons_zero, List.set_cons_succ])
      refine lateT_take (i := 1) (oi := _) (v := ?_) [2, 3, 4, 6, 7, 9] rfl (by kernel_rfl) (by kernel_rfl) (by kernel_rfl) (by kernel_rfl) (fun _ _ _ h => h) (Or.inl ⟨by rfl, ?hy⟩) hS0 ?_
      case hy => (intro w hSw; (try dsimp only at hSw); go_simp <;> with_reducible rfl)
      (try simp only [Act.put, List.setIfInBounds_toArray, List.set_cons_zero, List.set_cons_succ])
      refine lateT_take (i := 2) (oi := _) (v := ?_) [3, 4, 6, 7, 9] rfl (by kernel_rfl) (by kernel_rfl) (by kernel_rfl) (by kernel_rfl) (fun _ _ _ h => h) (Or.inl ⟨by rfl, ?hy⟩) hS0 ?_
      case hy => (intro w hSw; (try dsimp only at hSw); go_simp <;> with_reducible rfl)
      (try simp only [Act.put, List.setIfInBounds_toArray, List.set_cons_zero, List.set_cons_succ])
      refine lateT_take (i := 3) (oi := _) (v := ?_) [4, 6, 7, 9] rfl (by kernel_rfl) (by kernel_rfl) (by kernel_rfl) (by kernel_rfl) (fun _ _ _ h => h) (Or.inl ⟨by rfl, ?hy⟩) hS0 ?_
      case hy => (intro w hSw; (try dsimp only at hSw); go_simp <;> with_reducible rfl)
      (try simp only [Act.put, List.setIfInBounds_toArray, List.set_cons_zero, List.set_cons_succ])
      refine lateT_take (i := 4) (oi := _) (v := ?_) [6, 7, 9] rfl (by kernel_rfl) (by kernel_rfl) (by kernel_rfl) (by kernel_rfl) (fun _ _ _ h => h) (Or.inl ⟨by rfl, ?hy⟩) hS0 ?_
      case hy => (intro w hSw; (try dsimp only at hSw); go_simp <;> with_reducible rfl)
      (try simp only [Act.put, List.setIfInBounds_toArray, List.set_cons_zero, List.set_cons_succ])
      refine lateT_take (i := 5) (oi := _) (v := ?_) [6, 7, 9] rfl (by kernel_rfl) (by kernel_rfl) (by kernel_rfl) (by kernel_rfl) (fun _ _ _ h => h) (Or.inl ⟨by rfl, ?hy⟩) hS0 ?_
      case hy => (intro w hSw; (try dsimp only at hSw); go_simp <;> with_reducible rfl)
      (try simp only [Act.put, List.setIfInBounds_toArray, List.set_cons_zero, List.set_cons_succ])
      refine lateT_take (i := 6) (oi := _) (v := ?_) [7, 9] rfl (by kernel_rfl) (by kernel_rfl) (by kernel_rfl) (by kernel_rfl) (fun _ _ _ h => h) (Or.inl ⟨by rfl, ?hy⟩) hS0 ?_
      case hy => (intro w hSw; (try dsimp only at hSw); go_simp <;> with_reducible rfl)
      (try simp only [Act.put, List.setIfInBounds_toArray, List.set_cons_zero, List.set_cons_succ])
      refine lateT_take (i := 7) (oi := _) (v := ?_) [9] rfl (by kernel_rfl) (by kernel_rfl) (by kernel_rfl) (by kernel_rfl) (fun _ _ _ h => h) (Or.inl ⟨by rfl, ?hy⟩) hS0 ?_
      case hy => (intro w hSw; (try dsimp only at hSw); go_simp <;> with_reducible rfl)
      (try simp only [Act.put, List.setIfInBounds_toArray, List.set_cons_zero, List.set_cons_succ])
      refine lateT_take (i := 8) (oi := _) (v := ?_) [9] rfl (by kernel_rfl) (by kernel_rfl) (by kernel_rfl) (by kernel_rfl) (fun _ _ _ h => h) (Or.inl ⟨by rfl, ?hy⟩) hS0 ?_
      case hy => (intro w hSw; (try dsimp only at hSw); go_simp <;> with_reducible rfl)
      (try simp only [Act.put, List.setIfInBounds_toArray, List.set_cons_zero, List.set_cons_succ])
      refine lateT_step (i := 9) (by kernel_rfl) rfl (fun K hK => ?_)
      go_simp
      go_at_call 148
      refine qn.out.mono ?_
      rintro e w7 hgot
      have hg' := hide hgot
      obtain ⟨-, -, -, -, -, -, -, rfl, -⟩ := hgot
      go_wp2_with fail
      refine hK.out _ _ (fun h => absurd rfl h) ?_
      clear hK K
      (try simp only [Act.put, List.setIfInBounds_toArray, List.set_cons_zero, List.set_cons_succ])
      refine lateT_done (by kernel_rfl) ?_ _
      obtain ⟨A', C', n', c', d', G', H', -, hT7, hbut7, hnew7⟩ := hg'.out
      clear hg' hS0
      have hstd := hIq.out.st.kept (w' := wq.drew) fun _ _ => rfl
      have kX7 := hbut7.kept (show wq.drew.heap[bX]? = _ from hIq.out.kX) (hstd.other (show wq.drew.heap[bX]? = _ from hIq.out.kX) (by decide) (by decide) (by decide))
      have kF7 := hbut7.kept (show wq.drew.heap[bF]? = _ from hIq.out.kF) (hstd.other (show wq.drew.heap[bF]? = _ from hIq.out.kF) (by decide) (by decide) (by decide))
      have kI7 := hbut7.kept (show wq.drew.heap[bI]? = _ from hIq.out.kI) (hstd.other (show wq.drew.heap[bI]? = _ from hIq.out.kI) (by decide) (by decide) (by decide))
      have hbw7 := (hIq.out.bel.drew).trans (hbut7.below hstd.low hIq.out.bel.size)
      have hat7 := hide (hIq.out.at_.step hv hs hp4 hs4 hq'.out)
      have y0 : w7.cell? ⟨bI, 0, none⟩ = some (.int .i64 (k : Int)) := (cell_of_row _ _ 0 _ _ (0, 0) kI7).trans rfl
      have hba : Below w7.heap.size w7 (w7.alloc (.cells #[.int .i64 ((k : Int) + 1)] 3)) := (Below.refl _ _).alloc (Nat.le_refl _) _
      have hI8 : Hid (InvG w (w7.alloc (.cells #[.int .i64 ((k : Int) + 1)] 3)) X M bX bF w7.heap.size (tvOf p0 p1 A2 n2 k2 A3 n3 k3 A4 n4 k4 A5 n5 k5 r0 r1 B2 m2 j2 B3 m3 j3) (p0, p1, ls, es) (r0, r1, ms, fs) (k + 1) A' C' n' c' d' G' H' (expP (p0, p1, ls, es) (r0, r1, ms, fs) R q)) :=
        ⟨hT7.below hba, (hba.block _ (Array.getElem?_eq_some_iff.1 kX7).1).trans kX7, (hba.block _ (Array.getElem?_eq_some_iff.1 kF7).1).trans kF7, heap_alloc_new w7 _, hat7.out, hbw7.alloc hbw7.size _⟩
      clear hIq hT7 hbut7 hnew7 hstd kX7 kF7 kI7 hbw7 hba hat7 qn x0 xI x10 f4
      go_wp2_with fail
      go_roundg G2
      case measure => omega
      case rel => exact ⟨w7.heap.size, k + 1, n', c', d', A', C', G', H', _, rfl, hI8, hG2⟩
    · have hfin := hI.out.at_.fin hp4 hs4 (by rw [hnR.out]; omega)
      subst hfin
      have hres : Hid (∀ N, GotT w (tvOf p0 p1 A2 n2 k2 A3 n3 k3 A4 n4 k4 A5 n5 k5 r0 r1 B2 m2 j2 B3 m3 j3) (allR (p0, p1, ls, es) (r0, r1, ms, fs)) (.returned (.pointer (some ⟨X, 0, none⟩))) (wr.drewN N)) := fun N => ⟨X, M, n, c, d, A, C, G, H, rfl, hI.out.st.kept fun _ _ => rfl, ⟨hI.out.bel.os, hI.out.bel.tape, hI.out.bel.output, hI.out.bel.size, hI.out.bel.block⟩⟩
      clear hI hnR
      go_wp2
      go_quiet (fail)
      go_wp2
      go_ret
      exact hres.out nq

end Go.Proofs.YtiaclddgllkgpaaGreatDoor
