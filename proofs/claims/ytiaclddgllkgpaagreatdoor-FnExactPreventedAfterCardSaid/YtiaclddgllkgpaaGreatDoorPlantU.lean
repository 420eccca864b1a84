/-
  The test of plants, by the reference and by the program, over plants as arguments; their opening. Conditions: sizes.
-/
import Derived.Test.YtiaclddgllkgpaaGreatDoorPlantI2
import Derived.Test.YtiaclddgllkgpaaGreatDoorBaseD
namespace Go.Proofs.YtiaclddgllkgpaaGreatDoor
open Go.ChangeShapes Go.WideShapes Go.ChangeAt Go.RowKit Go.Sort
set_option linter.unusedVariables false

theorem totS_size {l : List ByteArray} {m : Nat} (h : totS l ≤ m) : ∀ s ∈ l, s.size ≤ m := fun s hs => by
  have h1 : s.size ≤ (l.map (·.size)).sum := mem_le_sum (List.mem_map.2 ⟨s, hs, rfl⟩)
  simp only [totS] at h
  omega
theorem totS_len {l : List ByteArray} {m : Nat} (h : totS l ≤ m) : l.length ≤ m := by
  simp only [totS] at h
  omega
/-- A plant that was copied, taken apart. -/
structure PlantAt (w : World) (lo hi : Nat) (x : CL) (A4 : Option Addr) (n4 k4 : Nat) (A5 : Option Addr) (n5 k5 : Nat) (d : DP) : Prop where
  sys : ReadL w lo hi x d.1
  marks : SlI w lo hi A4 n4 d.2.1
  names : SlS w lo hi A5 n5 d.2.2
  len4 : n4 ≤ 1048576
  len5 : n5 ≤ 1048576
  sizes : ∀ s ∈ d.2.2, s.size ≤ 1048576
  tot : totL d.1 ≤ 1048576
theorem FreshP.open_ {v : Value} {d : DP} {w : World} {lo hi : Nat} (h : FreshP w lo hi v d) : ∃ x A4 n4 k4 A5 n5 k5, v = .agg #[.int .i64 x.1, .int .i64 x.2.1, x.2.2.1, x.2.2.2, .slice A4 n4 k4, .slice A5 n5 k5] ∧ PlantAt w lo hi x A4 n4 k4 A5 n5 k5 d := by
  obtain ⟨⟨x, v4, v5, rfl, hL, a0, a1⟩, ht⟩ := h
  obtain ⟨A4, n4, k4, rfl, t4⟩ := a0.long
  obtain ⟨A5, n5, k5, rfl, -, -, t5⟩ := a1
  have hl4 := t4.len
  have hl5 := t5.len
  simp only [totP] at ht
  have h5 := totS_len (l := d.2.2) (m := 1048576) (by omega)
  exact ⟨x, A4, n4, k4, A5, n5, k5, rfl, hL, t4, t5, by omega, by omega, totS_size (by omega), by omega⟩

set_option maxHeartbeats 800000 in
theorem specValidPlant_u {v : Value} {d : DP} {w : World} {lo hi : Nat} (he : Env w) (h : FreshP w lo hi v d) (hh : hi ≤ w.heap.size) :
    Calls Tryz.prog 20 #[v] w fun e w' => e = .returned (.bool (plantV d)) ∧ Below w.heap.size w w' := by
  obtain ⟨⟨s0, s1, v2, v3⟩, A4, n4, k4, A5, n5, k5, rfl, hp⟩ := h.open_
  obtain ⟨dl, vs, ns⟩ := d
  obtain ⟨hL, t4, t5, h4, h5, hs, ht⟩ := hp
  dsimp only at *
  have hb0 : Below w.heap.size w (w.alloc (.cells #[.int .i64 s0, .int .i64 s1, v2, v3, .slice A4 n4 k4, .slice A5 n5 k5] 44)) := (Below.refl _ _).alloc (Nat.le_refl _) _
  have k0 := heap_alloc_new w (.cells #[.int .i64 s0, .int .i64 s1, v2, v3, .slice A4 n4 k4, .slice A5 n5 k5] 44)
  have hz : w.heap.size < (w.alloc (.cells #[.int .i64 s0, .int .i64 s1, v2, v3, .slice A4 n4 k4, .slice A5 n5 k5] 44)).heap.size := by rw [World.size_alloc]; omega
  have hat : LtsAt (w.alloc (.cells #[.int .i64 s0, .int .i64 s1, v2, v3, .slice A4 n4 k4, .slice A5 n5 k5] 44)) w.heap.size (s0, s1, v2, v3) dl :=
    ⟨(hL.below hb0 (.inr (Nat.le_refl _))).more (Nat.zero_le _) (by omega), by omega, hz, (cell_of_row _ _ 0 _ _ (0, 0) k0).trans rfl, (cell_of_row _ _ 1 _ _ (0, 0) k0).trans rfl, (cell_of_row _ _ 2 _ _ (0, 0) k0).trans rfl, (cell_of_row _ _ 3 _ _ (0, 0) k0).trans rfl⟩
  have q := hide (l29Is_calls w.heap.size (s0, s1, v2, v3) A4 A5 n4 k4 n5 k5 dl vs ns _ hat ((cell_of_row _ _ 4 _ _ (0, 0) k0).trans rfl) ((cell_of_row _ _ 5 _ _ (0, 0) k0).trans rfl) h4 h5 hs ((t4.below hb0 (.inr (Nat.le_refl _))).more (Nat.zero_le _) (by omega)) ((t5.below hb0 (.inr (Nat.le_refl _))).more (Nat.zero_le _) (by omega)))
  replace hb0 := hide hb0
  clear k0 hz hat hL t4 t5 h
  go_enter Tryz.func20, Tryz.ntmps20
  go_wp2_with fail
  refine q.out.mono ?_
  rintro e w1 ⟨rfl, hb⟩
  go_wp2_with fail
  go_ret
  exact ⟨rfl, hb0.out.trans (hb.mono hb0.out.size)⟩

theorem implValidPlant_u {v : Value} {d : DP} {w : World} {lo hi : Nat} (he : Env w) (h : FreshP w lo hi v d) (hh : hi ≤ w.heap.size) :
    Calls Tryz.prog 22 #[v] w fun e w' => e = .returned (.bool (plantV d)) ∧ Below w.heap.size w w' := by
  obtain ⟨x, A4, n4, k4, A5, n5, k5, rfl, hp⟩ := h.open_
  obtain ⟨dl, vs, ns⟩ := d
  exact plant_calls x A4 A5 n4 k4 n5 k5 dl vs ns w lo hi hp.sys hp.marks hp.names hp.len4 hp.len5 hp.sizes hp.tot he

set_option maxRecDepth 100000 in
theorem open_P {H : Type} {enc : TypeId × Value → H} {w : World} {base wbase : Nat} {spare : Nat → Bool} {held : Bool} {v : Value} {d : DataW H} {p : List MemPlace} {w0 : World} {r0 : Reach} (hw : Value.okWide Tryz.prog w0 r0 wbase 40 v)
    (h : DataW.Trod enc Tryz.prog w base spare held 40 v d p) (hz : ∀ b off, MemPlace.cell b off ∈ p → w.frozen? ⟨b, off, none⟩ = false) : ∃ x, ArgP w base w.heap.size v x := by
  obtain ⟨cs, rfl, hsz⟩ := okWide_struct Tryz.underlying40 hw
  obtain ⟨fuel, hf⟩ := h
  have hsz6 : cs.size = 6 := hsz
  have hf' : DataW.trod enc Tryz.prog w base spare held fuel 40 cs.toList = some (d, p) := hf
  obtain ⟨cs⟩ := cs
  match cs, hsz6 with
  | [k0, k1, k2, k3, k4, k5], _ =>
    obtain ⟨m0, y0, t0, p0⟩ := fieldN Tryz.underlying40 hf' 0 _ rfl
    obtain ⟨m1, y1, t1, p1⟩ := fieldN Tryz.underlying40 hf' 1 _ rfl
    obtain ⟨m2, y2, t2, p2⟩ := fieldN Tryz.underlying40 hf' 2 _ rfl
    have e0 : (([k0, k1, k2, k3, k4, k5] : List Value).drop 0).take (Tryz.prog.cellsOf 25) = [k0, k1, k2, k3] := by rw [show Tryz.prog.cellsOf 25 = 4 by kernel_rfl]; rfl
    have e1 : (([k0, k1, k2, k3, k4, k5] : List Value).drop 4).take (Tryz.prog.cellsOf 26) = [k4] := by rw [show Tryz.prog.cellsOf 26 = 1 by kernel_rfl]; rfl
    have e2 : (([k0, k1, k2, k3, k4, k5] : List Value).drop 5).take (Tryz.prog.cellsOf 22) = [k5] := by rw [show Tryz.prog.cellsOf 22 = 1 by kernel_rfl]; rfl
    have t0' : DataW.trod enc Tryz.prog w base spare held m0 25 [k0, k1, k2, k3] = some y0 := by rw [← e0]; exact t0
    have t1' : DataW.trod enc Tryz.prog w base spare held m1 26 [k4] = some y1 := by rw [← e1]; exact t1
    have t2' : DataW.trod enc Tryz.prog w base spare held m2 22 [k5] = some y2 := by rw [← e2]; exact t2
    obtain ⟨x, d0, ex, r0⟩ := read_L t0' (fun b off hp => hz b off (p0 _ hp))
    obtain ⟨d1, r1⟩ := read_I Tryz.underlying26 (by kernel_rfl) Tryz.underlying2 t1' (fun b off hp => hz b off (p1 _ hp))
    obtain ⟨d2, r2⟩ := read_S Tryz.underlying22 (by kernel_rfl) Tryz.underlying9 t2' (fun b off hp => hz b off (p2 _ hp))
    injection ex with ex0 ex
    injection ex with ex1 ex
    injection ex with ex2 ex
    injection ex with ex3 ex
    subst ex0 ex1 ex2 ex3
    exact ⟨(d0, d1, d2), x, k4, k5, rfl, r0, r1, r2⟩

end Go.Proofs.YtiaclddgllkgpaaGreatDoor
