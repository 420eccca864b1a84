/-
  Simulates, AreMutual and SimulationRound by the program. Conditions: sizes.
-/
import Derived.Test.YthlaoedpjloloaaGreatDoorSimN1
import Derived.Test.YthlaoedpjloloaaGreatDoorKindLu
namespace Go.Proofs.YthlaoedpjloloaaGreatDoor
open Go.ChangeShapes Go.WideShapes Go.ChangeAt Go.RowKit Go.Sort
set_option linter.unusedVariables false
set_option linter.unusedSimpArgs false

noncomputable def simV (d s : DL) (K : Int) : Bool := decide (misF (simR K d.1 s.1 d.2.2.2 d.2.2.1 s.2.2.2 s.2.2.1) d.2.1 s.2.1 < 0)
noncomputable def simF (d s : DL) (K : Int) : Bool × Int := if simC d s K = 0 then (simV d s K, 0) else (false, simC d s K)
noncomputable def mutF (d s : DL) (K : Int) : Bool × Int := if simC d s K = 0 then (simV d s K && simV s d K, 0) else (false, simC d s K)
noncomputable def rndF (d s : DL) (K : Int) : Int × Int := if simC d s K = 0 then (if simV d s K = true then (0, 3) else (misF (simR K d.1 s.1 d.2.2.2 d.2.2.1 s.2.2.2 s.2.2.1) d.2.1 s.2.1, 0)) else (0, simC d s K)
theorem simC_ok {d s : DL} {K : Int} (h : simC d s K = 0) : ltsV d = true ∧ ltsV s = true := by
  unfold simC at h
  split at h
  · assumption
  · omega
theorem simV_dec (d s : DL) (K : Int) : simV d s K = decide (misF (simR K d.1 s.1 d.2.2.2 d.2.2.1 s.2.2.2 s.2.2.1) d.2.1 s.2.1 < 0) := rfl

/-- Both systems boxed, and where they lie. -/
structure TwoL (w W : World) (s0 s1 : Int) (A2 : Option Addr) (n2 k2 : Nat) (A3 : Option Addr) (n3 k3 : Nat) (r0 r1 : Int) (B2 : Option Addr) (m2 j2 : Nat) (B3 : Option Addr) (m3 j3 : Nat) (lt : List ByteArray) (et : List Ed) (lp : List ByteArray) (ep : List Ed) : Prop where
  kA : W.heap[w.heap.size]? = some (.cells #[.int .i64 s0, .int .i64 s1, .slice A2 n2 k2, .slice A3 n3 k3] 31 (0, 0))
  kB : W.heap[w.heap.size + 1]? = some (.cells #[.int .i64 r0, .int .i64 r1, .slice B2 m2 j2, .slice B3 m3 j3] 31 (0, 0))
  bel : Below w.heap.size w W
theorem TwoL.below {w W W' : World} {s0 s1 : Int} {A2 : Option Addr} {n2 k2 : Nat} {A3 : Option Addr} {n3 k3 : Nat} {r0 r1 : Int} {B2 : Option Addr} {m2 j2 : Nat} {B3 : Option Addr} {m3 j3 : Nat} {lt : List ByteArray} {et : List Ed} {lp : List ByteArray} {ep : List Ed} (h : TwoL w W s0 s1 A2 n2 k2 A3 n3 k3 r0 r1 B2 m2 j2 B3 m3 j3 lt et lp ep) (hb : Below W.heap.size W W') : TwoL w W' s0 s1 A2 n2 k2 A3 n3 k3 r0 r1 B2 m2 j2 B3 m3 j3 lt et lp ep :=
  ⟨(hb.block _ (Array.getElem?_eq_some_iff.1 h.kA).1).trans h.kA, (hb.block _ (Array.getElem?_eq_some_iff.1 h.kB).1).trans h.kB, h.bel.trans (hb.mono h.bel.size)⟩
theorem TwoL.made (w : World) (s0 s1 : Int) (A2 : Option Addr) (n2 k2 : Nat) (A3 : Option Addr) (n3 k3 : Nat) (r0 r1 : Int) (B2 : Option Addr) (m2 j2 : Nat) (B3 : Option Addr) (m3 j3 : Nat) (lt : List ByteArray) (et : List Ed) (lp : List ByteArray) (ep : List Ed) : TwoL w ((w.alloc (.cells #[.int .i64 s0, .int .i64 s1, .slice A2 n2 k2, .slice A3 n3 k3] 31)).alloc (.cells #[.int .i64 r0, .int .i64 r1, .slice B2 m2 j2, .slice B3 m3 j3] 31)) s0 s1 A2 n2 k2 A3 n3 k3 r0 r1 B2 m2 j2 B3 m3 j3 lt et lp ep := by
  have z1 : (w.alloc (.cells #[.int .i64 s0, .int .i64 s1, .slice A2 n2 k2, .slice A3 n3 k3] 31)).heap.size = w.heap.size + 1 := World.size_alloc _ _
  have k1 := heap_alloc_new (w.alloc (.cells #[.int .i64 s0, .int .i64 s1, .slice A2 n2 k2, .slice A3 n3 k3] 31)) (.cells #[.int .i64 r0, .int .i64 r1, .slice B2 m2 j2, .slice B3 m3 j3] 31)
  rw [z1] at k1
  exact ⟨(Below.heap_alloc (w.alloc (.cells #[.int .i64 s0, .int .i64 s1, .slice A2 n2 k2, .slice A3 n3 k3] 31)) (.cells #[.int .i64 r0, .int .i64 r1, .slice B2 m2 j2, .slice B3 m3 j3] 31) w.heap.size (by omega)).trans (heap_alloc_new w (.cells #[.int .i64 s0, .int .i64 s1, .slice A2 n2 k2, .slice A3 n3 k3] 31)), k1, ((Below.refl _ _).alloc (Nat.le_refl _) _).alloc (by omega) _⟩
theorem SimD.swap {w : World} {K : Nat} {s0 s1 : Int} {A2 : Option Addr} {n2 k2 : Nat} {A3 : Option Addr} {n3 k3 : Nat} {r0 r1 : Int} {B2 : Option Addr} {m2 j2 : Nat} {B3 : Option Addr} {m3 j3 : Nat} {lt : List ByteArray} {et : List Ed} {lp : List ByteArray} {ep : List Ed} (h : SimD w K s0 s1 A2 n2 k2 A3 n3 k3 r0 r1 B2 m2 j2 B3 m3 j3 lt et lp ep) : SimD w K r0 r1 B2 m2 j2 B3 m3 j3 s0 s1 A2 n2 k2 A3 n3 k3 lp ep lt et :=
  ⟨h.u2, h.u3, h.t2, h.t3, h.hfs, h.hes, h.hp, h.ht⟩
theorem SimD.up {w W : World} {s0 s1 : Int} {A2 : Option Addr} {n2 k2 : Nat} {A3 : Option Addr} {n3 k3 : Nat} {r0 r1 : Int} {B2 : Option Addr} {m2 j2 : Nat} {B3 : Option Addr} {m3 j3 : Nat} {lt : List ByteArray} {et : List Ed} {lp : List ByteArray} {ep : List Ed} (h : SimD w w.heap.size s0 s1 A2 n2 k2 A3 n3 k3 r0 r1 B2 m2 j2 B3 m3 j3 lt et lp ep) (hb : Below w.heap.size w W) : SimD W W.heap.size s0 s1 A2 n2 k2 A3 n3 k3 r0 r1 B2 m2 j2 B3 m3 j3 lt et lp ep :=
  have h' := h.below hb (Nat.le_refl _)
  ⟨h'.t2.more (Nat.le_refl _) hb.size, h'.t3.more (Nat.le_refl _) hb.size, h'.u2.more (Nat.le_refl _) hb.size, h'.u3.more (Nat.le_refl _) hb.size, h'.hes, h'.hfs, h'.ht, h'.hp⟩

set_option maxRecDepth 100000 in
set_option maxHeartbeats 3200000 in
theorem implSimulates_u {v u : Value} {d : DL} {s : DL} {w : World} {lo hi lo' hi' : Nat} (he : Env w) (h : FreshL w lo hi v d) (hh : hi ≤ w.heap.size) (g : FreshL w lo' hi' u s) (gh : hi' ≤ w.heap.size) (K : Int) :
    Calls Tryz.prog 17 #[v, u, .int .i64 K] w fun e w' => e = .returned (.tuple #[.bool (simF d s K).1, .int .i64 (simF d s K).2]) ∧ Below w.heap.size w w' := by
  obtain ⟨⟨⟨s0, s1, v2, v3⟩, rfl, hL⟩, ht⟩ := h
  obtain ⟨⟨⟨r0, r1, u2, u3⟩, rfl, gL⟩, gt⟩ := g
  obtain ⟨st, ini, lt, et⟩ := d
  obtain ⟨st', ini', lp, ep⟩ := s
  have hL' := hL
  have gL' := gL
  obtain ⟨e0, e1, ⟨A2, n2, k2, e2, hn2, hs2, t2⟩, ⟨A3, n3, k3, e3, hn3, t3⟩⟩ := hL
  obtain ⟨f0, f1, ⟨B2, m2, j2, f2, hm2, hs2', t2'⟩, ⟨B3, m3, j3, f3, hm3, t3'⟩⟩ := gL
  dsimp only at *
  subst e0 e1 e2 e3 f0 f1 f2 f3
  have hes : n3 ≤ 1048576 := by rw [← t3.len]; exact Nat.le_trans (totL_edg (s0, s1, lt, et)) ht
  have hfs : m3 ≤ 1048576 := by rw [← t3'.len]; exact Nat.le_trans (totL_edg (r0, r1, lp, ep)) gt
  have hT := TwoL.made w s0 s1 A2 n2 k2 A3 n3 k3 r0 r1 B2 m2 j2 B3 m3 j3 lt et lp ep
  have q1 := simCode_calls K s0 s1 (.slice A2 n2 k2) (.slice A3 n3 k3) r0 r1 (.slice B2 m2 j2) (.slice B3 m3 j3) (s0, s1, lt, et) (r0, r1, lp, ep) _ lo hi lo' hi' (hL'.below hT.bel (.inr (Nat.le_refl _))) (gL'.below hT.bel (.inr (Nat.le_refl _))) ht gt (he.below hT.bel (Nat.le_refl _))
  have z1 : (w.alloc (.cells #[.int .i64 s0, .int .i64 s1, .slice A2 n2 k2, .slice A3 n3 k3] 31)).heap.size = w.heap.size + 1 := World.size_alloc _ _
  have a0 := (cell_of_row _ _ 0 _ _ (0, 0) hT.kA).trans (show _ = some (Value.int .i64 s0) from rfl)
  have a1 := (cell_of_row _ _ 1 _ _ (0, 0) hT.kA).trans (show _ = some (Value.int .i64 s1) from rfl)
  have a2 := (cell_of_row _ _ 2 _ _ (0, 0) hT.kA).trans (show _ = some (Value.slice A2 n2 k2) from rfl)
  have a3 := (cell_of_row _ _ 3 _ _ (0, 0) hT.kA).trans (show _ = some (Value.slice A3 n3 k3) from rfl)
  have b0 := (cell_of_row _ _ 0 _ _ (0, 0) hT.kB).trans (show _ = some (Value.int .i64 r0) from rfl)
  have b1 := (cell_of_row _ _ 1 _ _ (0, 0) hT.kB).trans (show _ = some (Value.int .i64 r1) from rfl)
  have b2 := (cell_of_row _ _ 2 _ _ (0, 0) hT.kB).trans (show _ = some (Value.slice B2 m2 j2) from rfl)
  have b3 := (cell_of_row _ _ 3 _ _ (0, 0) hT.kB).trans (show _ = some (Value.slice B3 m3 j3) from rfl)
  have hD0 := fun (h1 : ltsV (s0, s1, lt, et) = true) (h2 : ltsV (r0, r1, lp, ep) = true) => (⟨t2.more (Nat.zero_le _) hh, t3.more (Nat.zero_le _) hh, t2'.more (Nat.zero_le _) gh, t3'.more (Nat.zero_le _) gh, hes, hfs, h1, h2⟩ : SimD w w.heap.size s0 s1 A2 n2 k2 A3 n3 k3 r0 r1 B2 m2 j2 B3 m3 j3 lt et lp ep)
  replace hT := hide hT
  replace hD0 := hide hD0
  clear hL' gL' hs2 hs2' he hn2 hn3 hm2 hm3 t2 t3 t2' t3'
  by_cases hc : simC (s0, s1, lt, et) (r0, r1, lp, ep) K = 0
  case neg =>
    have hv : Hid (simF (s0, s1, lt, et) (r0, r1, lp, ep) K = (false, simC (s0, s1, lt, et) (r0, r1, lp, ep) K)) := by show _ = _; unfold simF; rw [if_neg hc]
    generalize simC (s0, s1, lt, et) (r0, r1, lp, ep) K = oc at *
    replace q1 := hide q1
    go_enter Tryz.func17, Tryz.ntmps17
    go_upto_region 1 with fail
    generalize ((w.alloc (.cells #[.int .i64 s0, .int .i64 s1, .slice A2 n2 k2, .slice A3 n3 k3] 31)).alloc (.cells #[.int .i64 r0, .int .i64 r1, .slice B2 m2 j2, .slice B3 m3 j3] 31)) = W0 at *
    go_wp2_with (first | (go_at_call 45; (with_reducible refine q1.out.mono ?_); rintro e w5 ⟨rfl, hb5⟩; replace hb5 := hide hb5))
    go_ret2
    exact ⟨by rw [hv.out]; rfl, (hT.out.below hb5.out).bel⟩
  obtain ⟨h1, h2⟩ := simC_ok hc
  have hD := hD0.out h1 h2
  have hbP := (lts_boundsB h1).1
  have hbS := (lts_boundsB h2).1
  obtain ⟨n, hn⟩ : ∃ n : Nat, s0 = (n : Int) := ⟨s0.toNat, by omega⟩
  obtain ⟨p, hp⟩ : ∃ p : Nat, r0 = (p : Int) := ⟨r0.toNat, by omega⟩
  have hn' := hide hn
  have hp' := hide hp
  rw [hc] at q1
  replace q1 := hide q1
  have hv : Hid (simF (s0, s1, lt, et) (r0, r1, lp, ep) K = (simV (s0, s1, lt, et) (r0, r1, lp, ep) K, 0)) := by show _ = _; unfold simF; rw [if_pos hc]
  have q2 := hide fun (W : World) (hW : Below w.heap.size w W) => simulatesK_calls n p s0 s1 A2 n2 k2 A3 n3 k3 r0 r1 B2 m2 j2 B3 m3 j3 lt et lp ep K W (hD.up hW) hn'.out hp'.out
  clear hc hD hD0 h1 h2 hn hp hbP hbS
  go_enter Tryz.func17, Tryz.ntmps17
  go_upto_region 1 with fail
  generalize ((w.alloc (.cells #[.int .i64 s0, .int .i64 s1, .slice A2 n2 k2, .slice A3 n3 k3] 31)).alloc (.cells #[.int .i64 r0, .int .i64 r1, .slice B2 m2 j2, .slice B3 m3 j3] 31)) = W0 at *
  go_wp2_with (first | (go_at_call 45; (with_reducible refine q1.out.mono ?_); rintro e w5 ⟨rfl, hb5⟩; have hT5 := hT.out.below hb5; have c0 := (cell_of_row _ _ 0 _ _ (0, 0) hT5.kA).trans (show _ = some (Value.int .i64 s0) from rfl); have c1 := (cell_of_row _ _ 1 _ _ (0, 0) hT5.kA).trans (show _ = some (Value.int .i64 s1) from rfl); have c2 := (cell_of_row _ _ 2 _ _ (0, 0) hT5.kA).trans (show _ = some (Value.slice A2 n2 k2) from rfl); have c3 := (cell_of_row _ _ 3 _ _ (0, 0) hT5.kA).trans (show _ = some (Value.slice A3 n3 k3) from rfl); have d0 := (cell_of_row _ _ 0 _ _ (0, 0) hT5.kB).trans (show _ = some (Value.int .i64 r0) from rfl); have d1 := (cell_of_row _ _ 1 _ _ (0, 0) hT5.kB).trans (show _ = some (Value.int .i64 r1) from rfl); have d2 := (cell_of_row _ _ 2 _ _ (0, 0) hT5.kB).trans (show _ = some (Value.slice B2 m2 j2) from rfl); have d3 := (cell_of_row _ _ 3 _ _ (0, 0) hT5.kB).trans (show _ = some (Value.slice B3 m3 j3) from rfl); have q3 := hide (q2.out w5 hT5.bel); replace hT5 := hide hT5; clear q1 hb5) | (go_at_call 48; (with_reducible refine q3.out.mono ?_); rintro e w6 ⟨rfl, hb6⟩; replace hb6 := hide hb6))
  go_ret2
  exact ⟨by rw [hv.out]; rfl, (hT5.out.below hb6.out).bel⟩

set_option maxRecDepth 100000 in
set_option maxHeartbeats 3200000 in
theorem implAreMutual_u {v u : Value} {d : DL} {s : DL} {w : World} {lo hi lo' hi' : Nat} (he : Env w) (h : FreshL w lo hi v d) (hh : hi ≤ w.heap.size) (g : FreshL w lo' hi' u s) (gh : hi' ≤ w.heap.size) (K : Int) :
    Calls Tryz.prog 15 #[v, u, .int .i64 K] w fun e w' => e = .returned (.tuple #[.bool (mutF d s K).1, .int .i64 (mutF d s K).2]) ∧ Below w.heap.size w w' := by
  obtain ⟨⟨⟨s0, s1, v2, v3⟩, rfl, hL⟩, ht⟩ := h
  obtain ⟨⟨⟨r0, r1, u2, u3⟩, rfl, gL⟩, gt⟩ := g
  obtain ⟨st, ini, lt, et⟩ := d
  obtain ⟨st', ini', lp, ep⟩ := s
  have hL' := hL
  have gL' := gL
  obtain ⟨e0, e1, ⟨A2, n2, k2, e2, hn2, hs2, t2⟩, ⟨A3, n3, k3, e3, hn3, t3⟩⟩ := hL
  obtain ⟨f0, f1, ⟨B2, m2, j2, f2, hm2, hs2', t2'⟩, ⟨B3, m3, j3, f3, hm3, t3'⟩⟩ := gL
  dsimp only at *
  subst e0 e1 e2 e3 f0 f1 f2 f3
  have hes : n3 ≤ 1048576 := by rw [← t3.len]; exact Nat.le_trans (totL_edg (s0, s1, lt, et)) ht
  have hfs : m3 ≤ 1048576 := by rw [← t3'.len]; exact Nat.le_trans (totL_edg (r0, r1, lp, ep)) gt
  have hT := TwoL.made w s0 s1 A2 n2 k2 A3 n3 k3 r0 r1 B2 m2 j2 B3 m3 j3 lt et lp ep
  have q1 := simCode_calls K s0 s1 (.slice A2 n2 k2) (.slice A3 n3 k3) r0 r1 (.slice B2 m2 j2) (.slice B3 m3 j3) (s0, s1, lt, et) (r0, r1, lp, ep) _ lo hi lo' hi' (hL'.below hT.bel (.inr (Nat.le_refl _))) (gL'.below hT.bel (.inr (Nat.le_refl _))) ht gt (he.below hT.bel (Nat.le_refl _))
  have z1 : (w.alloc (.cells #[.int .i64 s0, .int .i64 s1, .slice A2 n2 k2, .slice A3 n3 k3] 31)).heap.size = w.heap.size + 1 := World.size_alloc _ _
  have a0 := (cell_of_row _ _ 0 _ _ (0, 0) hT.kA).trans (show _ = some (Value.int .i64 s0) from rfl)
  have a1 := (cell_of_row _ _ 1 _ _ (0, 0) hT.kA).trans (show _ = some (Value.int .i64 s1) from rfl)
  have a2 := (cell_of_row _ _ 2 _ _ (0, 0) hT.kA).trans (show _ = some (Value.slice A2 n2 k2) from rfl)
  have a3 := (cell_of_row _ _ 3 _ _ (0, 0) hT.kA).trans (show _ = some (Value.slice A3 n3 k3) from rfl)
  have b0 := (cell_of_row _ _ 0 _ _ (0, 0) hT.kB).trans (show _ = some (Value.int .i64 r0) from rfl)
  have b1 := (cell_of_row _ _ 1 _ _ (0, 0) hT.kB).trans (show _ = some (Value.int .i64 r1) from rfl)
  have b2 := (cell_of_row _ _ 2 _ _ (0, 0) hT.kB).trans (show _ = some (Value.slice B2 m2 j2) from rfl)
  have b3 := (cell_of_row _ _ 3 _ _ (0, 0) hT.kB).trans (show _ = some (Value.slice B3 m3 j3) from rfl)
  have hD0 := fun (h1 : ltsV (s0, s1, lt, et) = true) (h2 : ltsV (r0, r1, lp, ep) = true) => (⟨t2.more (Nat.zero_le _) hh, t3.more (Nat.zero_le _) hh, t2'.more (Nat.zero_le _) gh, t3'.more (Nat.zero_le _) gh, hes, hfs, h1, h2⟩ : SimD w w.heap.size s0 s1 A2 n2 k2 A3 n3 k3 r0 r1 B2 m2 j2 B3 m3 j3 lt et lp ep)
  replace hT := hide hT
  replace hD0 := hide hD0
  clear hL' gL' hs2 hs2' he hn2 hn3 hm2 hm3 t2 t3 t2' t3'
  by_cases hc : simC (s0, s1, lt, et) (r0, r1, lp, ep) K = 0
  case neg =>
    have hv : Hid (mutF (s0, s1, lt, et) (r0, r1, lp, ep) K = (false, simC (s0, s1, lt, et) (r0, r1, lp, ep) K)) := by show _ = _; unfold mutF; rw [if_neg hc]
    generalize simC (s0, s1, lt, et) (r0, r1, lp, ep) K = oc at *
    replace q1 := hide q1
    go_enter Tryz.func15, Tryz.ntmps15
    go_upto_region 1 with fail
    generalize ((w.alloc (.cells #[.int .i64 s0, .int .i64 s1, .slice A2 n2 k2, .slice A3 n3 k3] 31)).alloc (.cells #[.int .i64 r0, .int .i64 r1, .slice B2 m2 j2, .slice B3 m3 j3] 31)) = W0 at *
    go_wp2_with (first | (go_at_call 45; (with_reducible refine q1.out.mono ?_); rintro e w5 ⟨rfl, hb5⟩; replace hb5 := hide hb5))
    go_ret2
    exact ⟨by rw [hv.out]; rfl, (hT.out.below hb5.out).bel⟩
  obtain ⟨h1, h2⟩ := simC_ok hc
  have hD := hD0.out h1 h2
  have hbP := (lts_boundsB h1).1
  have hbS := (lts_boundsB h2).1
  obtain ⟨n, hn⟩ : ∃ n : Nat, s0 = (n : Int) := ⟨s0.toNat, by omega⟩
  obtain ⟨p, hp⟩ : ∃ p : Nat, r0 = (p : Int) := ⟨r0.toNat, by omega⟩
  have hn' := hide hn
  have hp' := hide hp
  rw [hc] at q1
  replace q1 := hide q1
  have hv : Hid (mutF (s0, s1, lt, et) (r0, r1, lp, ep) K = (simV (s0, s1, lt, et) (r0, r1, lp, ep) K && simV (r0, r1, lp, ep) (s0, s1, lt, et) K, 0)) := by show _ = _; unfold mutF; rw [if_pos hc]
  have q2 := hide fun (W : World) (hW : Below w.heap.size w W) => simulatesK_calls n p s0 s1 A2 n2 k2 A3 n3 k3 r0 r1 B2 m2 j2 B3 m3 j3 lt et lp ep K W (hD.up hW) hn'.out hp'.out
  have q4 := hide fun (W : World) (hW : Below w.heap.size w W) => simulatesK_calls p n r0 r1 B2 m2 j2 B3 m3 j3 s0 s1 A2 n2 k2 A3 n3 k3 lp ep lt et K W (hD.swap.up hW) hp'.out hn'.out
  have e1 := hide (simV_dec (s0, s1, lt, et) (r0, r1, lp, ep) K)
  have e2 := hide (simV_dec (r0, r1, lp, ep) (s0, s1, lt, et) K)
  dsimp only at e1 e2
  generalize decide (misF (simR K s0 r0 et lt ep lp) s1 r1 < 0) = x1 at *
  generalize decide (misF (simR K r0 s0 ep lp et lt) r1 s1 < 0) = x2 at *
  rw [e1.out, e2.out] at hv
  clear hc hD hD0 h1 h2 hn hp hbP hbS e1 e2
  cases x1 with
  | true =>
    go_enter Tryz.func15, Tryz.ntmps15
    go_upto_region 1 with fail
    generalize ((w.alloc (.cells #[.int .i64 s0, .int .i64 s1, .slice A2 n2 k2, .slice A3 n3 k3] 31)).alloc (.cells #[.int .i64 r0, .int .i64 r1, .slice B2 m2 j2, .slice B3 m3 j3] 31)) = W0 at *
    go_wp2_with (first | (go_at_call 45; (with_reducible refine q1.out.mono ?_); rintro e w5 ⟨rfl, hb5⟩; have hT5 := hT.out.below hb5; have c0 := (cell_of_row _ _ 0 _ _ (0, 0) hT5.kA).trans (show _ = some (Value.int .i64 s0) from rfl); have c1 := (cell_of_row _ _ 1 _ _ (0, 0) hT5.kA).trans (show _ = some (Value.int .i64 s1) from rfl); have c2 := (cell_of_row _ _ 2 _ _ (0, 0) hT5.kA).trans (show _ = some (Value.slice A2 n2 k2) from rfl); have c3 := (cell_of_row _ _ 3 _ _ (0, 0) hT5.kA).trans (show _ = some (Value.slice A3 n3 k3) from rfl); have d0 := (cell_of_row _ _ 0 _ _ (0, 0) hT5.kB).trans (show _ = some (Value.int .i64 r0) from rfl); have d1 := (cell_of_row _ _ 1 _ _ (0, 0) hT5.kB).trans (show _ = some (Value.int .i64 r1) from rfl); have d2 := (cell_of_row _ _ 2 _ _ (0, 0) hT5.kB).trans (show _ = some (Value.slice B2 m2 j2) from rfl); have d3 := (cell_of_row _ _ 3 _ _ (0, 0) hT5.kB).trans (show _ = some (Value.slice B3 m3 j3) from rfl); have q3 := hide (q2.out w5 hT5.bel); replace hT5 := hide hT5; clear q1 hb5) | (go_at_call 48; (with_reducible refine q3.out.mono ?_); rintro e w6 ⟨rfl, hb6⟩; have hT6 := hT5.out.below hb6; have x0 := (cell_of_row _ _ 0 _ _ (0, 0) hT6.kA).trans (show _ = some (Value.int .i64 s0) from rfl); have x1 := (cell_of_row _ _ 1 _ _ (0, 0) hT6.kA).trans (show _ = some (Value.int .i64 s1) from rfl); have x2 := (cell_of_row _ _ 2 _ _ (0, 0) hT6.kA).trans (show _ = some (Value.slice A2 n2 k2) from rfl); have x3 := (cell_of_row _ _ 3 _ _ (0, 0) hT6.kA).trans (show _ = some (Value.slice A3 n3 k3) from rfl); have y0 := (cell_of_row _ _ 0 _ _ (0, 0) hT6.kB).trans (show _ = some (Value.int .i64 r0) from rfl); have y1 := (cell_of_row _ _ 1 _ _ (0, 0) hT6.kB).trans (show _ = some (Value.int .i64 r1) from rfl); have y2 := (cell_of_row _ _ 2 _ _ (0, 0) hT6.kB).trans (show _ = some (Value.slice B2 m2 j2) from rfl); have y3 := (cell_of_row _ _ 3 _ _ (0, 0) hT6.kB).trans (show _ = some (Value.slice B3 m3 j3) from rfl); have q5 := hide (q4.out w6 hT6.bel); replace hT6 := hide hT6; clear q3 hb6) | (go_at_call 48; (with_reducible refine q5.out.mono ?_); rintro e w7 ⟨rfl, hb7⟩; replace hb7 := hide hb7))
    go_ret2
    exact ⟨by rw [hv.out]; rfl, (hT6.out.below hb7.out).bel⟩
  | false =>
    go_enter Tryz.func15, Tryz.ntmps15
    go_upto_region 1 with fail
    generalize ((w.alloc (.cells #[.int .i64 s0, .int .i64 s1, .slice A2 n2 k2, .slice A3 n3 k3] 31)).alloc (.cells #[.int .i64 r0, .int .i64 r1, .slice B2 m2 j2, .slice B3 m3 j3] 31)) = W0 at *
    go_wp2_with (first | (go_at_call 45; (with_reducible refine q1.out.mono ?_); rintro e w5 ⟨rfl, hb5⟩; have hT5 := hT.out.below hb5; have c0 := (cell_of_row _ _ 0 _ _ (0, 0) hT5.kA).trans (show _ = some (Value.int .i64 s0) from rfl); have c1 := (cell_of_row _ _ 1 _ _ (0, 0) hT5.kA).trans (show _ = some (Value.int .i64 s1) from rfl); have c2 := (cell_of_row _ _ 2 _ _ (0, 0) hT5.kA).trans (show _ = some (Value.slice A2 n2 k2) from rfl); have c3 := (cell_of_row _ _ 3 _ _ (0, 0) hT5.kA).trans (show _ = some (Value.slice A3 n3 k3) from rfl); have d0 := (cell_of_row _ _ 0 _ _ (0, 0) hT5.kB).trans (show _ = some (Value.int .i64 r0) from rfl); have d1 := (cell_of_row _ _ 1 _ _ (0, 0) hT5.kB).trans (show _ = some (Value.int .i64 r1) from rfl); have d2 := (cell_of_row _ _ 2 _ _ (0, 0) hT5.kB).trans (show _ = some (Value.slice B2 m2 j2) from rfl); have d3 := (cell_of_row _ _ 3 _ _ (0, 0) hT5.kB).trans (show _ = some (Value.slice B3 m3 j3) from rfl); have q3 := hide (q2.out w5 hT5.bel); replace hT5 := hide hT5; clear q1 hb5) | (go_at_call 48; (with_reducible refine q3.out.mono ?_); rintro e w6 ⟨rfl, hb6⟩; replace hb6 := hide hb6))
    go_ret2
    exact ⟨by rw [hv.out]; rfl, (hT5.out.below hb6.out).bel⟩

set_option maxRecDepth 100000 in
set_option maxHeartbeats 3200000 in
theorem implSimulationRound_u {v u : Value} {d : DL} {s : DL} {w : World} {lo hi lo' hi' : Nat} (he : Env w) (h : FreshL w lo hi v d) (hh : hi ≤ w.heap.size) (g : FreshL w lo' hi' u s) (gh : hi' ≤ w.heap.size) (K : Int) :
    Calls Tryz.prog 12 #[v, u, .int .i64 K] w fun e w' => e = .returned (.tuple #[.int .i64 (rndF d s K).1, .int .i64 (rndF d s K).2]) ∧ Below w.heap.size w w' := by
  obtain ⟨⟨⟨s0, s1, v2, v3⟩, rfl, hL⟩, ht⟩ := h
  obtain ⟨⟨⟨r0, r1, u2, u3⟩, rfl, gL⟩, gt⟩ := g
  obtain ⟨st, ini, lt, et⟩ := d
  obtain ⟨st', ini', lp, ep⟩ := s
  have hL' := hL
  have gL' := gL
  obtain ⟨e0, e1, ⟨A2, n2, k2, e2, hn2, hs2, t2⟩, ⟨A3, n3, k3, e3, hn3, t3⟩⟩ := hL
  obtain ⟨f0, f1, ⟨B2, m2, j2, f2, hm2, hs2', t2'⟩, ⟨B3, m3, j3, f3, hm3, t3'⟩⟩ := gL
  dsimp only at *
  subst e0 e1 e2 e3 f0 f1 f2 f3
  have hes : n3 ≤ 1048576 := by rw [← t3.len]; exact Nat.le_trans (totL_edg (s0, s1, lt, et)) ht
  have hfs : m3 ≤ 1048576 := by rw [← t3'.len]; exact Nat.le_trans (totL_edg (r0, r1, lp, ep)) gt
  have hT := TwoL.made w s0 s1 A2 n2 k2 A3 n3 k3 r0 r1 B2 m2 j2 B3 m3 j3 lt et lp ep
  have q1 := simCode_calls K s0 s1 (.slice A2 n2 k2) (.slice A3 n3 k3) r0 r1 (.slice B2 m2 j2) (.slice B3 m3 j3) (s0, s1, lt, et) (r0, r1, lp, ep) _ lo hi lo' hi' (hL'.below hT.bel (.inr (Nat.le_refl _))) (gL'.below hT.bel (.inr (Nat.le_refl _))) ht gt (he.below hT.bel (Nat.le_refl _))
  have z1 : (w.alloc (.cells #[.int .i64 s0, .int .i64 s1, .slice A2 n2 k2, .slice A3 n3 k3] 31)).heap.size = w.heap.size + 1 := World.size_alloc _ _
  have a0 := (cell_of_row _ _ 0 _ _ (0, 0) hT.kA).trans (show _ = some (Value.int .i64 s0) from rfl)
  have a1 := (cell_of_row _ _ 1 _ _ (0, 0) hT.kA).trans (show _ = some (Value.int .i64 s1) from rfl)
  have a2 := (cell_of_row _ _ 2 _ _ (0, 0) hT.kA).trans (show _ = some (Value.slice A2 n2 k2) from rfl)
  have a3 := (cell_of_row _ _ 3 _ _ (0, 0) hT.kA).trans (show _ = some (Value.slice A3 n3 k3) from rfl)
  have b0 := (cell_of_row _ _ 0 _ _ (0, 0) hT.kB).trans (show _ = some (Value.int .i64 r0) from rfl)
  have b1 := (cell_of_row _ _ 1 _ _ (0, 0) hT.kB).trans (show _ = some (Value.int .i64 r1) from rfl)
  have b2 := (cell_of_row _ _ 2 _ _ (0, 0) hT.kB).trans (show _ = some (Value.slice B2 m2 j2) from rfl)
  have b3 := (cell_of_row _ _ 3 _ _ (0, 0) hT.kB).trans (show _ = some (Value.slice B3 m3 j3) from rfl)
  have hD0 := fun (h1 : ltsV (s0, s1, lt, et) = true) (h2 : ltsV (r0, r1, lp, ep) = true) => (⟨t2.more (Nat.zero_le _) hh, t3.more (Nat.zero_le _) hh, t2'.more (Nat.zero_le _) gh, t3'.more (Nat.zero_le _) gh, hes, hfs, h1, h2⟩ : SimD w w.heap.size s0 s1 A2 n2 k2 A3 n3 k3 r0 r1 B2 m2 j2 B3 m3 j3 lt et lp ep)
  replace hT := hide hT
  replace hD0 := hide hD0
  clear hL' gL' hs2 hs2' he hn2 hn3 hm2 hm3 t2 t3 t2' t3'
  by_cases hc : simC (s0, s1, lt, et) (r0, r1, lp, ep) K = 0
  case neg =>
    have hv : Hid (rndF (s0, s1, lt, et) (r0, r1, lp, ep) K = (0, simC (s0, s1, lt, et) (r0, r1, lp, ep) K)) := by show _ = _; unfold rndF; rw [if_neg hc]
    generalize simC (s0, s1, lt, et) (r0, r1, lp, ep) K = oc at *
    replace q1 := hide q1
    go_enter Tryz.func12, Tryz.ntmps12
    go_upto_region 1 with fail
    generalize ((w.alloc (.cells #[.int .i64 s0, .int .i64 s1, .slice A2 n2 k2, .slice A3 n3 k3] 31)).alloc (.cells #[.int .i64 r0, .int .i64 r1, .slice B2 m2 j2, .slice B3 m3 j3] 31)) = W0 at *
    go_wp2_with (first | (go_at_call 45; (with_reducible refine q1.out.mono ?_); rintro e w5 ⟨rfl, hb5⟩; replace hb5 := hide hb5))
    go_ret2
    exact ⟨by rw [hv.out]; rfl, (hT.out.below hb5.out).bel⟩
  obtain ⟨h1, h2⟩ := simC_ok hc
  have hD := hD0.out h1 h2
  have hbP := (lts_boundsB h1).1
  have hbS := (lts_boundsB h2).1
  obtain ⟨n, hn⟩ : ∃ n : Nat, s0 = (n : Int) := ⟨s0.toNat, by omega⟩
  obtain ⟨p, hp⟩ : ∃ p : Nat, r0 = (p : Int) := ⟨r0.toNat, by omega⟩
  have hn' := hide hn
  have hp' := hide hp
  rw [hc] at q1
  replace q1 := hide q1
  have hv : Hid (rndF (s0, s1, lt, et) (r0, r1, lp, ep) K = (if simV (s0, s1, lt, et) (r0, r1, lp, ep) K = true then (0, 3) else (misF (simR K s0 r0 et lt ep lp) s1 r1, 0))) := by show _ = _; unfold rndF; rw [if_pos hc]
  have q2 := hide fun (W : World) (hW : Below w.heap.size w W) => simulationK_calls n p s0 s1 A2 n2 k2 A3 n3 k3 r0 r1 B2 m2 j2 B3 m3 j3 lt et lp ep K W (hD.up hW) hn'.out hp'.out
  clear hc hD hD0 h1 h2 hn hp hbP hbS
  go_enter Tryz.func12, Tryz.ntmps12
  go_upto_region 1 with fail
  generalize ((w.alloc (.cells #[.int .i64 s0, .int .i64 s1, .slice A2 n2 k2, .slice A3 n3 k3] 31)).alloc (.cells #[.int .i64 r0, .int .i64 r1, .slice B2 m2 j2, .slice B3 m3 j3] 31)) = W0 at *
  go_upto_region 5 with (first | (go_at_call 45; (with_reducible refine q1.out.mono ?_); rintro e w5 ⟨rfl, hb5⟩; have hT5 := hT.out.below hb5; have c0 := (cell_of_row _ _ 0 _ _ (0, 0) hT5.kA).trans (show _ = some (Value.int .i64 s0) from rfl); have c1 := (cell_of_row _ _ 1 _ _ (0, 0) hT5.kA).trans (show _ = some (Value.int .i64 s1) from rfl); have c2 := (cell_of_row _ _ 2 _ _ (0, 0) hT5.kA).trans (show _ = some (Value.slice A2 n2 k2) from rfl); have c3 := (cell_of_row _ _ 3 _ _ (0, 0) hT5.kA).trans (show _ = some (Value.slice A3 n3 k3) from rfl); have d0 := (cell_of_row _ _ 0 _ _ (0, 0) hT5.kB).trans (show _ = some (Value.int .i64 r0) from rfl); have d1 := (cell_of_row _ _ 1 _ _ (0, 0) hT5.kB).trans (show _ = some (Value.int .i64 r1) from rfl); have d2 := (cell_of_row _ _ 2 _ _ (0, 0) hT5.kB).trans (show _ = some (Value.slice B2 m2 j2) from rfl); have d3 := (cell_of_row _ _ 3 _ _ (0, 0) hT5.kB).trans (show _ = some (Value.slice B3 m3 j3) from rfl); have q3 := hide (q2.out w5 hT5.bel); replace hT5 := hide hT5; clear q1 hb5) | (go_at_call 46; (with_reducible refine q3.out.mono ?_); rintro e w6 ⟨m6, S6, mis, rfl, -, -, -, hm6, hb6⟩; have hmf := misF_eq hm6; replace hb6 := hide hb6; clear q3 hm6))
  have hve := hv.out
  rw [simV_dec] at hve
  dsimp only at hve
  rw [hmf] at hve
  by_cases hmn : mis < 0
  · rw [if_pos (decide_eq_true hmn)] at hve
    replace hve := hide hve
    clear hmf hv
    go_wp2_with fail
    go_ret2
    exact ⟨by rw [hve.out]; rfl, (hT5.out.below hb6.out).bel⟩
  · rw [if_neg (by rw [decide_eq_false hmn]; decide)] at hve
    replace hve := hide hve
    clear hmf hv
    go_wp2_with fail
    go_ret2
    exact ⟨by rw [hve.out]; rfl, (hT5.out.below hb6.out).bel⟩

end Go.Proofs.YthlaoedpjloloaaGreatDoor
