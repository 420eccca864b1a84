/-
  Whether a system simulates another one, by the program; the kinds without ready labels. Conditions: sizes.
-/
import Derived.Test.YthlaoedpjloloaaGreatDoorSimC
namespace Go.Proofs.YthlaoedpjloloaaGreatDoor
open Go.ChangeShapes Go.WideShapes Go.ChangeAt Go.RowKit Go.Sort
set_option linter.unusedVariables false
set_option linter.unusedSimpArgs false

set_option maxRecDepth 100000 in
set_option maxHeartbeats 1600000 in
theorem simulates_calls (n p : Nat) (s0 s1 : Int) (A2 : Option Addr) (n2 k2 : Nat) (A3 : Option Addr) (n3 k3 : Nat) (r0 r1 : Int) (B2 : Option Addr) (m2 j2 : Nat) (B3 : Option Addr) (m3 j3 : Nat) (lt : List ByteArray) (et : List Ed) (lp : List ByteArray) (ep : List Ed) (K : Int) (w : World) (hD : SimD w w.heap.size s0 s1 A2 n2 k2 A3 n3 k3 r0 r1 B2 m2 j2 B3 m3 j3 lt et lp ep) (hns : s0 = (n : Int)) (hpr : r0 = (p : Int)) (hK : K ≠ 1) :
    Calls Tryz.prog 48 #[(.agg #[.int .i64 s0, .int .i64 s1, .slice A2 n2 k2, .slice A3 n3 k3]), (.agg #[.int .i64 r0, .int .i64 r1, .slice B2 m2 j2, .slice B3 m3 j3]), .int .i64 K] w fun e w' => e = .returned (.bool (decide (misF (simR K s0 r0 et lt ep lp) s1 r1 < 0))) ∧ Below w.heap.size w w' := by
  have z1 : (w.alloc (.cells #[.int .i64 s0, .int .i64 s1, .slice A2 n2 k2, .slice A3 n3 k3] 31)).heap.size = w.heap.size + 1 := World.size_alloc _ _
  have z2 : ((w.alloc (.cells #[.int .i64 s0, .int .i64 s1, .slice A2 n2 k2, .slice A3 n3 k3] 31)).alloc (.cells #[.int .i64 r0, .int .i64 r1, .slice B2 m2 j2, .slice B3 m3 j3] 31)).heap.size = w.heap.size + 1 + 1 := by rw [World.size_alloc, z1]
  have hb0 : Below w.heap.size w ((w.alloc (.cells #[.int .i64 s0, .int .i64 s1, .slice A2 n2 k2, .slice A3 n3 k3] 31)).alloc (.cells #[.int .i64 r0, .int .i64 r1, .slice B2 m2 j2, .slice B3 m3 j3] 31)) := ((Below.refl _ _).alloc (Nat.le_refl _) _).alloc (by omega) _
  have k1 := heap_alloc_new (w.alloc (.cells #[.int .i64 s0, .int .i64 s1, .slice A2 n2 k2, .slice A3 n3 k3] 31)) (.cells #[.int .i64 r0, .int .i64 r1, .slice B2 m2 j2, .slice B3 m3 j3] 31)
  rw [z1] at k1
  have k0 := (Below.heap_alloc (w.alloc (.cells #[.int .i64 s0, .int .i64 s1, .slice A2 n2 k2, .slice A3 n3 k3] 31)) (.cells #[.int .i64 r0, .int .i64 r1, .slice B2 m2 j2, .slice B3 m3 j3] 31) w.heap.size (by omega)).trans (heap_alloc_new w (.cells #[.int .i64 s0, .int .i64 s1, .slice A2 n2 k2, .slice A3 n3 k3] 31))
  have hD0 := hD.below hb0 (Nat.le_refl _)
  have q := hide (simulation_calls n p s0 s1 A2 n2 k2 A3 n3 k3 r0 r1 B2 m2 j2 B3 m3 j3 lt et lp ep K ((w.alloc (.cells #[.int .i64 s0, .int .i64 s1, .slice A2 n2 k2, .slice A3 n3 k3] 31)).alloc (.cells #[.int .i64 r0, .int .i64 r1, .slice B2 m2 j2, .slice B3 m3 j3] 31)) ⟨hD0.t2.more (Nat.le_refl _) hb0.size, hD0.t3.more (Nat.le_refl _) hb0.size, hD0.u2.more (Nat.le_refl _) hb0.size, hD0.u3.more (Nat.le_refl _) hb0.size, hD0.hes, hD0.hfs, hD0.ht, hD0.hp⟩ hns hpr hK)
  have a0 := (cell_of_row _ _ 0 _ _ (0, 0) k0).trans (show _ = some (Value.int .i64 s0) from rfl)
  have a1 := (cell_of_row _ _ 1 _ _ (0, 0) k0).trans (show _ = some (Value.int .i64 s1) from rfl)
  have a2 := (cell_of_row _ _ 2 _ _ (0, 0) k0).trans (show _ = some (Value.slice A2 n2 k2) from rfl)
  have a3 := (cell_of_row _ _ 3 _ _ (0, 0) k0).trans (show _ = some (Value.slice A3 n3 k3) from rfl)
  have b0 := (cell_of_row _ _ 0 _ _ (0, 0) k1).trans (show _ = some (Value.int .i64 r0) from rfl)
  have b1 := (cell_of_row _ _ 1 _ _ (0, 0) k1).trans (show _ = some (Value.int .i64 r1) from rfl)
  have b2 := (cell_of_row _ _ 2 _ _ (0, 0) k1).trans (show _ = some (Value.slice B2 m2 j2) from rfl)
  have b3 := (cell_of_row _ _ 3 _ _ (0, 0) k1).trans (show _ = some (Value.slice B3 m3 j3) from rfl)
  have hzs := hb0.size
  replace hb0 := hide hb0
  clear hD hD0 k0 k1 z1 z2 hns hpr hK
  go_enter Tryz.func48, Tryz.ntmps48
  go_upto_region 1 with fail
  generalize ((w.alloc (.cells #[.int .i64 s0, .int .i64 s1, .slice A2 n2 k2, .slice A3 n3 k3] 31)).alloc (.cells #[.int .i64 r0, .int .i64 r1, .slice B2 m2 j2, .slice B3 m3 j3] 31)) = W0 at *
  go_wp2_with (first | (go_at_call 46; (with_reducible refine q.out.mono ?_); rintro e w5 ⟨m5, S5, mis, rfl, hs5, hl5, hr5, hm5, hb5⟩; replace hs5 := hide hs5; replace hr5 := hide hr5; replace hm5 := hide hm5; replace hb5 := hide hb5))
  go_ret
  exact ⟨ret_b (by rw [misF_eq hm5.out]), hb0.out.trans (hb5.out.mono hzs)⟩

end Go.Proofs.YthlaoedpjloloaaGreatDoor
