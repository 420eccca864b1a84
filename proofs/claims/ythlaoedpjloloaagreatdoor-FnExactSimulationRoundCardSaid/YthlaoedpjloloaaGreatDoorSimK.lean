/-
  Whether a pair is as simulations of a kind must be, by the program; the kinds without ready labels. Conditions: sizes.
-/
import Derived.Test.YthlaoedpjloloaaGreatDoorSimJ
namespace Go.Proofs.YthlaoedpjloloaaGreatDoor
open Go.ChangeShapes Go.WideShapes Go.ChangeAt Go.RowKit Go.Sort
set_option linter.unusedVariables false
set_option linter.unusedSimpArgs false

set_option maxRecDepth 100000 in
set_option maxHeartbeats 1600000 in
theorem simulated_calls (s0 s1 : Int) (A2 : Option Addr) (n2 k2 : Nat) (A3 : Option Addr) (n3 k3 : Nat) (r0 r1 : Int) (B2 : Option Addr) (m2 j2 : Nat) (B3 : Option Addr) (m3 j3 : Nat) (lt : List ByteArray) (et : List Ed) (lp : List ByteArray) (ep : List Ed) (K0 bN m : Nat) (S : List PQ2) (K x y : Int) (w : World) (hD : SimD w K0 s0 s1 A2 n2 k2 A3 n3 k3 r0 r1 B2 m2 j2 B3 m3 j3 lt et lp ep) (hK0 : K0 ≤ w.heap.size) (h : NowAt w bN m S) (hs : s0 ≤ 40) (hr : r0 ≤ 40) (hK : K ≠ 1) (hy : 0 ≤ y ∧ y < r0) :
    Calls Tryz.prog 74 #[(.agg #[.int .i64 s0, .int .i64 s1, .slice A2 n2 k2, .slice A3 n3 k3, .int .i64 r0, .int .i64 r1, .slice B2 m2 j2, .slice B3 m3 j3, .func (.func 73) #[] #[.pointer (some ⟨bN, 0, none⟩)]]), .int .i64 K, .int .i64 x, .int .i64 y] w fun e w' => ∃ a : Bool, e = .returned (.bool a) ∧ (a = true ↔ simB K et lt ep lp (fun u v => (u, v) ∈ S) x y) ∧ Below w.heap.size w w' := by
  have hb0 : Below w.heap.size w (w.alloc (.cells #[.int .i64 s0, .int .i64 s1, .slice A2 n2 k2, .slice A3 n3 k3, .int .i64 r0, .int .i64 r1, .slice B2 m2 j2, .slice B3 m3 j3, .func (.func 73) #[] #[.pointer (some ⟨bN, 0, none⟩)]] 109)) := (Below.refl _ _).alloc (Nat.le_refl _) _
  have kR := heap_alloc_new w (.cells #[.int .i64 s0, .int .i64 s1, .slice A2 n2 k2, .slice A3 n3 k3, .int .i64 r0, .int .i64 r1, .slice B2 m2 j2, .slice B3 m3 j3, .func (.func 73) #[] #[.pointer (some ⟨bN, 0, none⟩)]] 109)
  have hzs := hb0.size
  have hK1 : (K == 1) = false := by rw [beq_eq_false_iff_ne]; exact hK
  have hK1' : ¬ K = 1 := hK
  have c0 := (cell_of_row _ _ 0 _ _ (0, 0) kR).trans (show _ = some (Value.int .i64 s0) from rfl)
  have c1 := (cell_of_row _ _ 1 _ _ (0, 0) kR).trans (show _ = some (Value.int .i64 s1) from rfl)
  have c2 := (cell_of_row _ _ 2 _ _ (0, 0) kR).trans (show _ = some (Value.slice A2 n2 k2) from rfl)
  have c3 := (cell_of_row _ _ 3 _ _ (0, 0) kR).trans (show _ = some (Value.slice A3 n3 k3) from rfl)
  have c4 := (cell_of_row _ _ 4 _ _ (0, 0) kR).trans (show _ = some (Value.int .i64 r0) from rfl)
  have c5 := (cell_of_row _ _ 5 _ _ (0, 0) kR).trans (show _ = some (Value.int .i64 r1) from rfl)
  have c6 := (cell_of_row _ _ 6 _ _ (0, 0) kR).trans (show _ = some (Value.slice B2 m2 j2) from rfl)
  have c7 := (cell_of_row _ _ 7 _ _ (0, 0) kR).trans (show _ = some (Value.slice B3 m3 j3) from rfl)
  have c8 := (cell_of_row _ _ 8 _ _ (0, 0) kR).trans (show _ = some (.func (.func 73) #[] #[.pointer (some ⟨bN, 0, none⟩)]) from rfl)
  have hD0 := hD.below hb0 hK0
  have h0 := h.below hb0
  have hdr : ∀ nq, Below (w.alloc (.cells #[.int .i64 s0, .int .i64 s1, .slice A2 n2 k2, .slice A3 n3 k3, .int .i64 r0, .int .i64 r1, .slice B2 m2 j2, .slice B3 m3 j3, .func (.func 73) #[] #[.pointer (some ⟨bN, 0, none⟩)]] 109)).heap.size (w.alloc (.cells #[.int .i64 s0, .int .i64 s1, .slice A2 n2 k2, .slice A3 n3 k3, .int .i64 r0, .int .i64 r1, .slice B2 m2 j2, .slice B3 m3 j3, .func (.func 73) #[] #[.pointer (some ⟨bN, 0, none⟩)]] 109)) ((w.alloc (.cells #[.int .i64 s0, .int .i64 s1, .slice A2 n2 k2, .slice A3 n3 k3, .int .i64 r0, .int .i64 r1, .slice B2 m2 j2, .slice B3 m3 j3, .func (.func 73) #[] #[.pointer (some ⟨bN, 0, none⟩)]] 109)).drewN nq) := fun nq => ⟨rfl, rfl, rfl, Nat.le_refl _, fun _ _ => rfl⟩
  have hb0' := hide hb0
  replace hdr := hide hdr
  by_cases hK2 : K = 2
  · subst hK2
    have q := hide fun (nq : Nat) => answered_calls s0 s1 A2 n2 k2 A3 n3 k3 r0 r1 B2 m2 j2 B3 m3 j3 lt et lp ep 109 K0 bN m S 2 x y ((w.alloc (.cells #[.int .i64 s0, .int .i64 s1, .slice A2 n2 k2, .slice A3 n3 k3, .int .i64 r0, .int .i64 r1, .slice B2 m2 j2, .slice B3 m3 j3, .func (.func 73) #[] #[.pointer (some ⟨bN, 0, none⟩)]] 109)).drewN nq) (hD0.below (hdr.out nq) (Nat.le_trans hK0 hzs)) (Nat.le_trans hK0 hzs) (h0.below (hdr.out nq)) hs (fun a b c d e W => rfl) fun lab v W hW hv =>
      weakWay_calls s0 s1 A2 n2 k2 A3 n3 k3 r0 r1 B2 m2 j2 B3 m3 j3 lt et lp ep K0 bN m S x y v lab W ((hD0.below (hdr.out nq) (Nat.le_trans hK0 hzs)).below hW (Nat.le_trans hK0 hzs)) ((h0.below (hdr.out nq)).below hW) hy hv hr
    clear hD hD0 h h0 hb0 kR
    go_enter Tryz.func74, Tryz.ntmps74
    go_upto_region 1 with fail
    generalize (w.alloc (.cells #[.int .i64 s0, .int .i64 s1, .slice A2 n2 k2, .slice A3 n3 k3, .int .i64 r0, .int .i64 r1, .slice B2 m2 j2, .slice B3 m3 j3, .func (.func 73) #[] #[.pointer (some ⟨bN, 0, none⟩)]] 109)) = W0 at *
    go_cut [22] (fun a wx => a = .bool false ∧ ∃ nq, wx = W0.drewN nq)
    case first =>
      go_quiet (fail)
      all_goals (go_wp2_with fail; go_meet)
      all_goals exact ⟨rfl, _, rfl⟩
    case rest =>
    obtain ⟨rfl, nq, rfl⟩ := hcut
    have qq := hide (q.out nq)
    have hbz := hdr.out nq
    have d0 : (W0.drewN nq).cell? ⟨w.heap.size, 0, none⟩ = some (.int .i64 s0) := c0
    have d1 : (W0.drewN nq).cell? ⟨w.heap.size, 1, none⟩ = some (.int .i64 s1) := c1
    have d2 : (W0.drewN nq).cell? ⟨w.heap.size, 2, none⟩ = some (.slice A2 n2 k2) := c2
    have d3 : (W0.drewN nq).cell? ⟨w.heap.size, 3, none⟩ = some (.slice A3 n3 k3) := c3
    have d4 : (W0.drewN nq).cell? ⟨w.heap.size, 4, none⟩ = some (.int .i64 r0) := c4
    have d5 : (W0.drewN nq).cell? ⟨w.heap.size, 5, none⟩ = some (.int .i64 r1) := c5
    have d6 : (W0.drewN nq).cell? ⟨w.heap.size, 6, none⟩ = some (.slice B2 m2 j2) := c6
    have d7 : (W0.drewN nq).cell? ⟨w.heap.size, 7, none⟩ = some (.slice B3 m3 j3) := c7
    have d8 : (W0.drewN nq).cell? ⟨w.heap.size, 8, none⟩ = some (.func (.func 73) #[] #[.pointer (some ⟨bN, 0, none⟩)]) := c8
    have hbw := hide (hb0'.out.trans (hbz.mono hzs))
    have hzw : w.heap.size ≤ (W0.drewN nq).heap.size := hzs
    clear c0 c1 c2 c3 c4 c5 c6 c7 c8 q hdr hb0'
    generalize (W0.drewN nq) = wd at *
    go_wp2_with (first | (go_at_call 108; (with_reducible refine qq.out.mono ?_); rintro e w5 ⟨a, rfl, ha, hb5⟩; replace ha := hide ha))
    go_ret
    exact ⟨a, rfl, ha.out, hbw.out.trans (hb5.mono hzw)⟩
  · have hK2b : (K == 2) = false := by rw [beq_eq_false_iff_ne]; exact hK2
    have q := hide fun (nq : Nat) => answered_calls s0 s1 A2 n2 k2 A3 n3 k3 r0 r1 B2 m2 j2 B3 m3 j3 lt et lp ep 110 K0 bN m S K x y ((w.alloc (.cells #[.int .i64 s0, .int .i64 s1, .slice A2 n2 k2, .slice A3 n3 k3, .int .i64 r0, .int .i64 r1, .slice B2 m2 j2, .slice B3 m3 j3, .func (.func 73) #[] #[.pointer (some ⟨bN, 0, none⟩)]] 109)).drewN nq) (hD0.below (hdr.out nq) (Nat.le_trans hK0 hzs)) (Nat.le_trans hK0 hzs) (h0.below (hdr.out nq)) hs (fun a b c d e W => rfl) fun lab v W hW hv =>
      strongly_calls s0 s1 A2 n2 k2 A3 n3 k3 r0 r1 B2 m2 j2 B3 m3 j3 lt et lp ep K0 bN m S K x y v lab W ((hD0.below (hdr.out nq) (Nat.le_trans hK0 hzs)).below hW (Nat.le_trans hK0 hzs)) ((h0.below (hdr.out nq)).below hW) hK2 hy hv hr
    clear hD hD0 h h0 hb0 kR
    go_enter Tryz.func74, Tryz.ntmps74
    go_upto_region 1 with fail
    generalize (w.alloc (.cells #[.int .i64 s0, .int .i64 s1, .slice A2 n2 k2, .slice A3 n3 k3, .int .i64 r0, .int .i64 r1, .slice B2 m2 j2, .slice B3 m3 j3, .func (.func 73) #[] #[.pointer (some ⟨bN, 0, none⟩)]] 109)) = W0 at *
    go_cut [22] (fun a wx => a = .bool false ∧ ∃ nq, wx = W0.drewN nq)
    case first =>
      go_quiet (fail)
      all_goals (go_wp2_with fail; go_meet)
      all_goals exact ⟨rfl, _, rfl⟩
    case rest =>
    obtain ⟨rfl, nq, rfl⟩ := hcut
    have qq := hide (q.out nq)
    have hbz := hdr.out nq
    have d0 : (W0.drewN nq).cell? ⟨w.heap.size, 0, none⟩ = some (.int .i64 s0) := c0
    have d1 : (W0.drewN nq).cell? ⟨w.heap.size, 1, none⟩ = some (.int .i64 s1) := c1
    have d2 : (W0.drewN nq).cell? ⟨w.heap.size, 2, none⟩ = some (.slice A2 n2 k2) := c2
    have d3 : (W0.drewN nq).cell? ⟨w.heap.size, 3, none⟩ = some (.slice A3 n3 k3) := c3
    have d4 : (W0.drewN nq).cell? ⟨w.heap.size, 4, none⟩ = some (.int .i64 r0) := c4
    have d5 : (W0.drewN nq).cell? ⟨w.heap.size, 5, none⟩ = some (.int .i64 r1) := c5
    have d6 : (W0.drewN nq).cell? ⟨w.heap.size, 6, none⟩ = some (.slice B2 m2 j2) := c6
    have d7 : (W0.drewN nq).cell? ⟨w.heap.size, 7, none⟩ = some (.slice B3 m3 j3) := c7
    have d8 : (W0.drewN nq).cell? ⟨w.heap.size, 8, none⟩ = some (.func (.func 73) #[] #[.pointer (some ⟨bN, 0, none⟩)]) := c8
    have hbw := hide (hb0'.out.trans (hbz.mono hzs))
    have hzw : w.heap.size ≤ (W0.drewN nq).heap.size := hzs
    clear c0 c1 c2 c3 c4 c5 c6 c7 c8 q hdr hb0'
    generalize (W0.drewN nq) = wd at *
    go_wp2_with (first | (go_at_call 108; (with_reducible refine qq.out.mono ?_); rintro e w5 ⟨a, rfl, ha, hb5⟩; replace ha := hide ha))
    go_ret
    exact ⟨a, rfl, ha.out, hbw.out.trans (hb5.mono hzw)⟩

end Go.Proofs.YthlaoedpjloloaaGreatDoor
