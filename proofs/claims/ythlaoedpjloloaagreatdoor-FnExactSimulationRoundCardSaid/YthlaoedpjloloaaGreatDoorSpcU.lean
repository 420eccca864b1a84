/-
  Simulates, AreMutual and SimulationRound by the reference. Conditions: sizes.
-/
import Derived.Test.YthlaoedpjloloaaGreatDoorBaseG
import Derived.Test.YthlaoedpjloloaaGreatDoorImpU
import Derived.Test.YthlaoedpjloloaaGreatDoorLitU
namespace Go.Proofs.YthlaoedpjloloaaGreatDoor
open Go.ChangeShapes Go.WideShapes Go.ChangeAt Go.RowKit Go.Sort
set_option linter.unusedVariables false
set_option linter.unusedSimpArgs false

theorem l17Kind_calls (K : Int) (w : World) : Calls Tryz.prog 65 #[.int .i64 K] w fun e w' => e = .returned (.bool (inB K 0 2)) ∧ w = w' := by
  have q := hide (l00In_calls K 0 2 w)
  go_enter Tryz.func65, Tryz.ntmps65
  go_wp2_with (first | (go_at_call 77; (with_reducible refine q.out.mono ?_); rintro e w5 ⟨rfl, rfl⟩))
  go_ret
  exact ⟨rfl, rfl⟩

set_option maxRecDepth 100000 in
set_option maxHeartbeats 1600000 in
theorem l17Ask_calls (ba bb : Nat) (xa xb : CL) (d s : DL) (K : Int) (w : World) (hA : LtsAt w ba xa d) (hB : LtsAt w bb xb s) :
    Calls Tryz.prog 40 #[.pointer (some ⟨ba, 0, none⟩), .pointer (some ⟨bb, 0, none⟩), .int .i64 K] w fun e w' => e = .returned (.int .i64 (simC d s K)) ∧ Below w.heap.size w w' := by
  have q1 := l11Is_calls ba xa d w hA
  have q2 := fun (W : World) (hW : Below w.heap.size w W) => l11Is_calls bb xb s W (hB.below hW (Nat.le_refl _))
  have q3 := hide fun (W : World) => l17Kind_calls K W
  have hob : simC d s K = if ltsV d = true ∧ ltsV s = true then (if inB K 0 2 = true then 0 else 2) else 1 := rfl
  clear hA hB
  cases hd : ltsV d with
  | false =>
    rw [hd] at q1 hob
    replace q1 := hide q1
    rw [if_neg (by simp)] at hob
    replace hob := hide hob
    clear hd q2 q3
    go_enter Tryz.func40, Tryz.ntmps40
    go_wp2_with (first | (go_at_call 57; (with_reducible refine q1.out.mono ?_); rintro e w5 ⟨rfl, hb5⟩; replace hb5 := hide hb5))
    go_ret
    exact ⟨ret_i (by rw [hob.out]), hb5.out⟩
  | true =>
    rw [hd] at q1 hob
    replace q1 := hide q1
    clear hd
    cases hs : ltsV s with
    | false =>
      rw [hs] at hob
      simp only [hs] at q2
      replace q2 := hide q2
      rw [if_neg (by simp)] at hob
      replace hob := hide hob
      clear hs q3
      go_enter Tryz.func40, Tryz.ntmps40
      go_wp2_with (first | (go_at_call 57; (with_reducible refine q1.out.mono ?_); rintro e w5 ⟨rfl, hb5⟩; have q4 := hide (q2.out w5 hb5); clear q1; replace hb5 := hide hb5) | (go_at_call 57; (with_reducible refine q4.out.mono ?_); rintro e w6 ⟨rfl, hb6⟩; replace hb6 := hide hb6))
      go_ret
      exact ⟨ret_i (by rw [hob.out]), hb5.out.trans (hb6.out.mono hb5.out.size)⟩
    | true =>
      rw [hs] at hob
      simp only [hs] at q2
      replace q2 := hide q2
      rw [if_pos ⟨rfl, rfl⟩] at hob
      clear hs
      cases hp : inB K 0 2 with
      | false =>
        rw [hp] at hob q3
        replace hob : Hid (simC d s K = 2) := hob
        clear hp
        go_enter Tryz.func40, Tryz.ntmps40
        go_wp2_with (first | (go_at_call 57; (with_reducible refine q1.out.mono ?_); rintro e w5 ⟨rfl, hb5⟩; have q4 := hide (q2.out w5 hb5); clear q1; replace hb5 := hide hb5) | (go_at_call 57; (with_reducible refine q4.out.mono ?_); rintro e w6 ⟨rfl, hb6⟩; have hb7 := hide (hb5.out.trans (hb6.mono hb5.out.size)); clear q4 hb6) | (go_at_call 65; (with_reducible refine (q3.out _).mono ?_); rintro e w8 ⟨rfl, rfl⟩))
        go_ret
        exact ⟨ret_i (by rw [hob.out]), hb7.out⟩
      | true =>
        rw [hp] at hob q3
        replace hob : Hid (simC d s K = 0) := hob
        clear hp
        go_enter Tryz.func40, Tryz.ntmps40
        go_wp2_with (first | (go_at_call 57; (with_reducible refine q1.out.mono ?_); rintro e w5 ⟨rfl, hb5⟩; have q4 := hide (q2.out w5 hb5); clear q1; replace hb5 := hide hb5) | (go_at_call 57; (with_reducible refine q4.out.mono ?_); rintro e w6 ⟨rfl, hb6⟩; have hb7 := hide (hb5.out.trans (hb6.mono hb5.out.size)); clear q4 hb6) | (go_at_call 65; (with_reducible refine (q3.out _).mono ?_); rintro e w8 ⟨rfl, rfl⟩))
        go_ret
        exact ⟨ret_i (by rw [hob.out]), hb7.out⟩

set_option maxRecDepth 100000 in
set_option maxHeartbeats 3200000 in
theorem specSimulates_u {v u : Value} {d : DL} {s : DL} {w : World} {lo hi lo' hi' : Nat} (he : Env w) (h : FreshL w lo hi v d) (hh : hi ≤ w.heap.size) (g : FreshL w lo' hi' u s) (gh : hi' ≤ w.heap.size) (K : Int) :
    Calls Tryz.prog 16 #[v, u, .int .i64 K] w fun e w' => e = .returned (.tuple #[.bool (simF d s K).1, .int .i64 (simF d s K).2]) ∧ Below w.heap.size w w' := by
  obtain ⟨⟨⟨s0, s1, v2, v3⟩, rfl, hL⟩, ht⟩ := h
  obtain ⟨⟨⟨r0, r1, u2, u3⟩, rfl, gL⟩, gt⟩ := g
  obtain ⟨st, ini, lt, et⟩ := d
  obtain ⟨st', ini', lp, ep⟩ := s
  have e0 := hL.1
  have e1 := hL.2.1
  have f0 := gL.1
  have f1 := gL.2.1
  dsimp only at *
  subst e0 e1 f0 f1
  have hz1 : (w.alloc (.cells #[.int .i64 s0, .int .i64 s1, v2, v3] 31)).heap.size = w.heap.size + 1 := World.size_alloc _ _
  have hA1 : Below w.heap.size w (w.alloc (.cells #[.int .i64 s0, .int .i64 s1, v2, v3] 31)) := (Below.refl _ _).alloc (Nat.le_refl _) _
  have hB1 : Below (w.alloc (.cells #[.int .i64 s0, .int .i64 s1, v2, v3] 31)).heap.size (w.alloc (.cells #[.int .i64 s0, .int .i64 s1, v2, v3] 31)) ((w.alloc (.cells #[.int .i64 s0, .int .i64 s1, v2, v3] 31)).alloc (.cells #[.int .i64 r0, .int .i64 r1, u2, u3] 31)) := (Below.refl _ _).alloc (Nat.le_refl _) _
  have hAt := (LtsAt.box hL hh ht).below hB1 (Nat.le_refl _)
  have hBt := LtsAt.box (gL.below hA1 (.inr (Nat.le_refl _))) (Nat.le_trans gh hA1.size) gt
  rw [hz1] at hBt
  have hb0 : Below w.heap.size w ((w.alloc (.cells #[.int .i64 s0, .int .i64 s1, v2, v3] 31)).alloc (.cells #[.int .i64 r0, .int .i64 r1, u2, u3] 31)) := hA1.trans (hB1.mono hA1.size)
  have hzs := hb0.size
  replace hb0 := hide hb0
  clear hL gL he hA1 hB1 hz1
  go_enter Tryz.func16, Tryz.ntmps16
  go_upto_region 1 with fail
  generalize ((w.alloc (.cells #[.int .i64 s0, .int .i64 s1, v2, v3] 31)).alloc (.cells #[.int .i64 r0, .int .i64 r1, u2, u3] 31)) = W0 at *
  have q1 := l17Ask_calls w.heap.size (w.heap.size + 1) _ _ _ _ K W0 hAt hBt
  by_cases hc : simC (s0, s1, lt, et) (r0, r1, lp, ep) K = 0
  case neg =>
    have hv : Hid (simF (s0, s1, lt, et) (r0, r1, lp, ep) K = (false, simC (s0, s1, lt, et) (r0, r1, lp, ep) K)) := by show _ = _; unfold simF; rw [if_neg hc]
    generalize simC (s0, s1, lt, et) (r0, r1, lp, ep) K = oc at *
    replace q1 := hide q1
    clear hAt hBt
    go_wp2_with (first | (go_at_call 40; (with_reducible refine q1.out.mono ?_); rintro e w5 ⟨rfl, hb5⟩; replace hb5 := hide hb5))
    go_ret2
    exact ⟨by rw [hv.out]; rfl, hb0.out.trans (hb5.out.mono hzs)⟩
  obtain ⟨h1, h2⟩ := simC_ok hc
  rw [hc] at q1
  replace q1 := hide q1
  have hbP := lts_boundsB h1
  have hbS := lts_boundsB h2
  obtain ⟨n, rfl⟩ : ∃ n : Nat, s0 = (n : Int) := ⟨s0.toNat, by omega⟩
  obtain ⟨p, rfl⟩ : ∃ p : Nat, r0 = (p : Int) := ⟨r0.toNat, by omega⟩
  have hv : Hid (simF ((n : Int), s1, lt, et) ((p : Int), r1, lp, ep) K = (simV ((n : Int), s1, lt, et) ((p : Int), r1, lp, ep) K, 0)) := by show _ = _; unfold simF; rw [if_pos hc]
  have q2 := hide fun (W : World) (hW : Below W0.heap.size W0 W) => l17Like_calls w.heap.size (w.heap.size + 1) _ _ n p s1 r1 lt lp et ep K W (hAt.below hW (Nat.le_refl _)) (hBt.below hW (Nat.le_refl _)) h1 h2
  clear hc hAt hBt h1 h2 hbP hbS
  go_wp2_with (first | (go_at_call 40; (with_reducible refine q1.out.mono ?_); rintro e w5 ⟨rfl, hb5⟩; have q3 := hide (q2.out w5 hb5); replace hb5 := hide hb5; clear q1) | (go_at_call 47; (with_reducible refine q3.out.mono ?_); rintro e w6 ⟨rfl, hb6⟩; replace hb6 := hide hb6))
  go_ret2
  have hbw := hb0.out.trans (hb5.out.mono hzs)
  exact ⟨by rw [hv.out]; rfl, hbw.trans (hb6.out.mono hbw.size)⟩

set_option maxRecDepth 100000 in
set_option maxHeartbeats 3200000 in
theorem specAreMutual_u {v u : Value} {d : DL} {s : DL} {w : World} {lo hi lo' hi' : Nat} (he : Env w) (h : FreshL w lo hi v d) (hh : hi ≤ w.heap.size) (g : FreshL w lo' hi' u s) (gh : hi' ≤ w.heap.size) (K : Int) :
    Calls Tryz.prog 14 #[v, u, .int .i64 K] w fun e w' => e = .returned (.tuple #[.bool (mutF d s K).1, .int .i64 (mutF d s K).2]) ∧ Below w.heap.size w w' := by
  obtain ⟨⟨⟨s0, s1, v2, v3⟩, rfl, hL⟩, ht⟩ := h
  obtain ⟨⟨⟨r0, r1, u2, u3⟩, rfl, gL⟩, gt⟩ := g
  obtain ⟨st, ini, lt, et⟩ := d
  obtain ⟨st', ini', lp, ep⟩ := s
  have e0 := hL.1
  have e1 := hL.2.1
  have f0 := gL.1
  have f1 := gL.2.1
  dsimp only at *
  subst e0 e1 f0 f1
  have hz1 : (w.alloc (.cells #[.int .i64 s0, .int .i64 s1, v2, v3] 31)).heap.size = w.heap.size + 1 := World.size_alloc _ _
  have hA1 : Below w.heap.size w (w.alloc (.cells #[.int .i64 s0, .int .i64 s1, v2, v3] 31)) := (Below.refl _ _).alloc (Nat.le_refl _) _
  have hB1 : Below (w.alloc (.cells #[.int .i64 s0, .int .i64 s1, v2, v3] 31)).heap.size (w.alloc (.cells #[.int .i64 s0, .int .i64 s1, v2, v3] 31)) ((w.alloc (.cells #[.int .i64 s0, .int .i64 s1, v2, v3] 31)).alloc (.cells #[.int .i64 r0, .int .i64 r1, u2, u3] 31)) := (Below.refl _ _).alloc (Nat.le_refl _) _
  have hAt := (LtsAt.box hL hh ht).below hB1 (Nat.le_refl _)
  have hBt := LtsAt.box (gL.below hA1 (.inr (Nat.le_refl _))) (Nat.le_trans gh hA1.size) gt
  rw [hz1] at hBt
  have hb0 : Below w.heap.size w ((w.alloc (.cells #[.int .i64 s0, .int .i64 s1, v2, v3] 31)).alloc (.cells #[.int .i64 r0, .int .i64 r1, u2, u3] 31)) := hA1.trans (hB1.mono hA1.size)
  have hzs := hb0.size
  replace hb0 := hide hb0
  clear hL gL he hA1 hB1 hz1
  go_enter Tryz.func14, Tryz.ntmps14
  go_upto_region 1 with fail
  generalize ((w.alloc (.cells #[.int .i64 s0, .int .i64 s1, v2, v3] 31)).alloc (.cells #[.int .i64 r0, .int .i64 r1, u2, u3] 31)) = W0 at *
  have q1 := l17Ask_calls w.heap.size (w.heap.size + 1) _ _ _ _ K W0 hAt hBt
  by_cases hc : simC (s0, s1, lt, et) (r0, r1, lp, ep) K = 0
  case neg =>
    have hv : Hid (mutF (s0, s1, lt, et) (r0, r1, lp, ep) K = (false, simC (s0, s1, lt, et) (r0, r1, lp, ep) K)) := by show _ = _; unfold mutF; rw [if_neg hc]
    generalize simC (s0, s1, lt, et) (r0, r1, lp, ep) K = oc at *
    replace q1 := hide q1
    clear hAt hBt
    go_wp2_with (first | (go_at_call 40; (with_reducible refine q1.out.mono ?_); rintro e w5 ⟨rfl, hb5⟩; replace hb5 := hide hb5))
    go_ret2
    exact ⟨by rw [hv.out]; rfl, hb0.out.trans (hb5.out.mono hzs)⟩
  obtain ⟨h1, h2⟩ := simC_ok hc
  rw [hc] at q1
  replace q1 := hide q1
  have hbP := lts_boundsB h1
  have hbS := lts_boundsB h2
  obtain ⟨n, rfl⟩ : ∃ n : Nat, s0 = (n : Int) := ⟨s0.toNat, by omega⟩
  obtain ⟨p, rfl⟩ : ∃ p : Nat, r0 = (p : Int) := ⟨r0.toNat, by omega⟩
  have hv : Hid (mutF ((n : Int), s1, lt, et) ((p : Int), r1, lp, ep) K = (simV ((n : Int), s1, lt, et) ((p : Int), r1, lp, ep) K && simV ((p : Int), r1, lp, ep) ((n : Int), s1, lt, et) K, 0)) := by show _ = _; unfold mutF; rw [if_pos hc]
  have q2 := hide fun (W : World) (hW : Below W0.heap.size W0 W) => l17Like_calls w.heap.size (w.heap.size + 1) _ _ n p s1 r1 lt lp et ep K W (hAt.below hW (Nat.le_refl _)) (hBt.below hW (Nat.le_refl _)) h1 h2
  have q4 := hide fun (W : World) (hW : Below W0.heap.size W0 W) => l17Like_calls (w.heap.size + 1) w.heap.size _ _ p n r1 s1 lp lt ep et K W (hBt.below hW (Nat.le_refl _)) (hAt.below hW (Nat.le_refl _)) h2 h1
  have e1 := hide (simV_dec ((n : Int), s1, lt, et) ((p : Int), r1, lp, ep) K)
  have e2 := hide (simV_dec ((p : Int), r1, lp, ep) ((n : Int), s1, lt, et) K)
  dsimp only at e1 e2
  generalize decide (misF (simR K n p et lt ep lp) s1 r1 < 0) = x1 at *
  generalize decide (misF (simR K p n ep lp et lt) r1 s1 < 0) = x2 at *
  rw [e1.out, e2.out] at hv
  clear hc hAt hBt h1 h2 hbP hbS e1 e2
  cases x1 with
  | true =>
    go_wp2_with (first | (go_at_call 40; (with_reducible refine q1.out.mono ?_); rintro e w5 ⟨rfl, hb5⟩; have q3 := hide (q2.out w5 hb5); replace hb5 := hide hb5; clear q1) | (go_at_call 47; (with_reducible refine q3.out.mono ?_); rintro e w6 ⟨rfl, hb6⟩; have hb6' := hide (hb5.out.trans (hb6.mono hb5.out.size)); have q5 := hide (q4.out w6 hb6'.out); clear q3 hb6) | (go_at_call 47; (with_reducible refine q5.out.mono ?_); rintro e w7 ⟨rfl, hb7⟩; replace hb7 := hide hb7))
    go_ret2
    have hbw := hb0.out.trans (hb6'.out.mono hzs)
    exact ⟨by rw [hv.out]; rfl, hbw.trans (hb7.out.mono hbw.size)⟩
  | false =>
    go_wp2_with (first | (go_at_call 40; (with_reducible refine q1.out.mono ?_); rintro e w5 ⟨rfl, hb5⟩; have q3 := hide (q2.out w5 hb5); replace hb5 := hide hb5; clear q1) | (go_at_call 47; (with_reducible refine q3.out.mono ?_); rintro e w6 ⟨rfl, hb6⟩; replace hb6 := hide hb6))
    go_ret2
    have hbw := hb0.out.trans (hb5.out.mono hzs)
    exact ⟨by rw [hv.out]; rfl, hbw.trans (hb6.out.mono hbw.size)⟩

set_option maxRecDepth 100000 in
set_option maxHeartbeats 3200000 in
theorem specSimulationRound_u {v u : Value} {d : DL} {s : DL} {w : World} {lo hi lo' hi' : Nat} (he : Env w) (h : FreshL w lo hi v d) (hh : hi ≤ w.heap.size) (g : FreshL w lo' hi' u s) (gh : hi' ≤ w.heap.size) (K : Int) :
    Calls Tryz.prog 10 #[v, u, .int .i64 K] w fun e w' => e = .returned (.tuple #[.int .i64 (rndF d s K).1, .int .i64 (rndF d s K).2]) ∧ Below w.heap.size w w' := by
  obtain ⟨⟨⟨s0, s1, v2, v3⟩, rfl, hL⟩, ht⟩ := h
  obtain ⟨⟨⟨r0, r1, u2, u3⟩, rfl, gL⟩, gt⟩ := g
  obtain ⟨st, ini, lt, et⟩ := d
  obtain ⟨st', ini', lp, ep⟩ := s
  have e0 := hL.1
  have e1 := hL.2.1
  have f0 := gL.1
  have f1 := gL.2.1
  dsimp only at *
  subst e0 e1 f0 f1
  have hz1 : (w.alloc (.cells #[.int .i64 s0, .int .i64 s1, v2, v3] 31)).heap.size = w.heap.size + 1 := World.size_alloc _ _
  have hA1 : Below w.heap.size w (w.alloc (.cells #[.int .i64 s0, .int .i64 s1, v2, v3] 31)) := (Below.refl _ _).alloc (Nat.le_refl _) _
  have hB1 : Below (w.alloc (.cells #[.int .i64 s0, .int .i64 s1, v2, v3] 31)).heap.size (w.alloc (.cells #[.int .i64 s0, .int .i64 s1, v2, v3] 31)) ((w.alloc (.cells #[.int .i64 s0, .int .i64 s1, v2, v3] 31)).alloc (.cells #[.int .i64 r0, .int .i64 r1, u2, u3] 31)) := (Below.refl _ _).alloc (Nat.le_refl _) _
  have hAt := (LtsAt.box hL hh ht).below hB1 (Nat.le_refl _)
  have hBt := LtsAt.box (gL.below hA1 (.inr (Nat.le_refl _))) (Nat.le_trans gh hA1.size) gt
  rw [hz1] at hBt
  have hb0 : Below w.heap.size w ((w.alloc (.cells #[.int .i64 s0, .int .i64 s1, v2, v3] 31)).alloc (.cells #[.int .i64 r0, .int .i64 r1, u2, u3] 31)) := hA1.trans (hB1.mono hA1.size)
  have hzs := hb0.size
  replace hb0 := hide hb0
  clear hL gL he hA1 hB1 hz1
  go_enter Tryz.func10, Tryz.ntmps10
  go_upto_region 1 with fail
  generalize ((w.alloc (.cells #[.int .i64 s0, .int .i64 s1, v2, v3] 31)).alloc (.cells #[.int .i64 r0, .int .i64 r1, u2, u3] 31)) = W0 at *
  have q1 := l17Ask_calls w.heap.size (w.heap.size + 1) _ _ _ _ K W0 hAt hBt
  by_cases hc : simC (s0, s1, lt, et) (r0, r1, lp, ep) K = 0
  case neg =>
    have hv : Hid (rndF (s0, s1, lt, et) (r0, r1, lp, ep) K = (0, simC (s0, s1, lt, et) (r0, r1, lp, ep) K)) := by show _ = _; unfold rndF; rw [if_neg hc]
    generalize simC (s0, s1, lt, et) (r0, r1, lp, ep) K = oc at *
    replace q1 := hide q1
    clear hAt hBt
    go_wp2_with (first | (go_at_call 40; (with_reducible refine q1.out.mono ?_); rintro e w5 ⟨rfl, hb5⟩; replace hb5 := hide hb5))
    go_ret2
    exact ⟨by rw [hv.out]; rfl, hb0.out.trans (hb5.out.mono hzs)⟩
  obtain ⟨h1, h2⟩ := simC_ok hc
  rw [hc] at q1
  replace q1 := hide q1
  have hbP := lts_boundsB h1
  have hbS := lts_boundsB h2
  obtain ⟨n, rfl⟩ : ∃ n : Nat, s0 = (n : Int) := ⟨s0.toNat, by omega⟩
  obtain ⟨p, rfl⟩ : ∃ p : Nat, r0 = (p : Int) := ⟨r0.toNat, by omega⟩
  have hvT : rndF ((n : Int), s1, lt, et) ((p : Int), r1, lp, ep) K = (if simV ((n : Int), s1, lt, et) ((p : Int), r1, lp, ep) K = true then (0, 3) else (misF (simR K n p et lt ep lp) s1 r1, 0)) := by unfold rndF; rw [if_pos hc]
  rw [simV_dec] at hvT
  dsimp only at hvT
  obtain ⟨i, rfl⟩ : ∃ t : Nat, s1 = (t : Int) := ⟨s1.toNat, by omega⟩
  obtain ⟨j, rfl⟩ : ∃ t : Nat, r1 = (t : Int) := ⟨r1.toNat, by omega⟩
  have hI0 : (0 : Int) ≤ (i : Int) := by omega
  have hI1 : (i : Int) < (n : Int) := by omega
  have hJ0 : (0 : Int) ≤ (j : Int) := by omega
  have hJ1 : (j : Int) < (p : Int) := by omega
  have hi : i < n := by omega
  have hn40 : n ≤ 40 := by omega
  have hp40 : p ≤ 40 := by omega
  have hj : j < p := by omega
  have q2 := hide fun (W : World) (hW : Below W0.heap.size W0 W) => l17First_calls w.heap.size (w.heap.size + 1) _ _ n p (i : Int) (j : Int) lt lp et ep K W (hAt.below hW (Nat.le_refl _)) (hBt.below hW (Nat.le_refl _)) h1 h2
  have q4 := hide fun (W1 W : World) (h01 : Below W0.heap.size W0 W1) (hW : Below W1.heap.size W1 W) (bq : Nat) (A : Option Addr) (c : Nat) (H : List (Hd × List Bool)) (R : Rel2) (hT : TabS W W1.heap.size bq w.heap.size (w.heap.size + 1) K A n c H) (hM : H.map (·.2) = tabR n p R) =>
    l17next_calls W1.heap.size bq w.heap.size (w.heap.size + 1) _ _ n p (i : Int) (j : Int) lt lp et ep K A c H R W hT hM (hAt.below (h01.trans (hW.mono h01.size)) (Nat.le_refl _)) (hBt.below (h01.trans (hW.mono h01.size)) (Nat.le_refl _)) h1 h2
  have cA := hAt.2.2.2.2.1
  have cB := hBt.2.2.2.2.1
  have hzA := hAt.2.2.1
  have hzB := hBt.2.2.1
  dsimp only at cA cB
  replace hvT := hide hvT
  clear hc hAt hBt h1 h2 hbP hbS
  go_upto_region 5 with (first | (go_at_call 40; (with_reducible refine q1.out.mono ?_); rintro e w5 ⟨rfl, hb5⟩; have q3 := hide (q2.out w5 hb5); replace hb5 := hide hb5; clear q1) | (go_at_call 41; (with_reducible refine q3.out.mono ?_); rintro e w6 ⟨bq1, A1, c1, H1, rfl, hT1, hM1, hb6⟩; replace hT1 := hide hT1; replace hM1 := hide hM1; replace hb6 := hide hb6; clear q3))
  go_upto_region 7 with fail
  have hall0 : Hid (∀ k, k < 0 → simR K n p et lt ep lp k (i : Int) (j : Int)) := fun k hk => by omega
  go_loopg [9, 10] (cntM true (tabR n p (simR K n p et lt ep lp 0))) (fun G t ro wr => ∃ (bq : Nat) (A : Option Addr) (c : Nat) (H : List (Hd × List Bool)) (r : Nat), t = .pointer (some ⟨bq, 0, none⟩) ∧ ro = .int .i64 (r : Int) ∧ Hid (TabS wr w5.heap.size bq w.heap.size (w.heap.size + 1) K A n c H) ∧ Hid (H.map (·.2) = tabR n p (simR K n p et lt ep lp r)) ∧ Hid (Below w5.heap.size w5 wr) ∧ Hid (∀ k, k < r → simR K n p et lt ep lp k (i : Int) (j : Int)) ∧ Hid (cntM true (tabR n p (simR K n p et lt ep lp r)) ≤ G) ∧ Hid (r + cntM true (tabR n p (simR K n p et lt ep lp r)) ≤ 1600))
  case atStart =>
    refine ⟨bq1, A1, c1, H1, 0, rfl, rfl, hT1, hM1, hb6, hall0, Nat.le_refl _, ?_⟩
    show _ ≤ _
    have h1 := cntM_le (b := true) (p := p) (M := tabR n p (simR K n p et lt ep lp 0)) fun r hr => by
      unfold tabR at hr
      obtain ⟨x, -, rfl⟩ := List.mem_map.1 hr
      simp
    rw [tabR_len] at h1
    have h2 : n * p ≤ 40 * 40 := Nat.mul_le_mul (by omega) (by omega)
    omega
  case round =>
    clear hT1 hM1 hb6 hall0
    obtain ⟨bq, A, c, H, r, rfl, rfl, hT, hM, hb, hall, hG, hfw⟩ := hrel
    have hbw := hide (hb5.out.trans (hb.out.mono hb5.out.size))
    obtain ⟨b3, o3, b4, o4, c4, rv, rfl, -, -, -, p0, p1, hrv⟩ := hT.out.rows.get hM.out hi hj
    have x3 := hT.out.facts.2.2.2
    have y1 := (hbw.out.cell (p := ⟨w.heap.size, 1, none⟩) hzA).trans cA
    have y2 := (hbw.out.cell (p := ⟨w.heap.size + 1, 1, none⟩) hzB).trans cB
    have hr16 : r ≤ 1600 := by have := hfw.out; omega
    go_upto_region 7 with fail
    cases rv with
    | false =>
      have hm : misF (simR K n p et lt ep lp) (i : Int) (j : Int) = (r : Int) := misF_eq (.inr ⟨r, rfl, (fun h => by have := hrv.2 h; cases this), hall.out⟩)
      have hve := hvT.out
      rw [hm, if_neg (by rw [decide_eq_false (by omega)]; decide)] at hve
      replace hve := hide hve
      have hbq := hide fun nq : Nat => hbw.out.trans ((below_drewN wr nq).mono hbw.out.size)
      clear hm hrv hT hM hall hvT
      go_quiet (fail)
      go_wp2_with fail
      go_ret2
      exact ⟨by rw [hve.out]; rfl, hb0.out.trans ((hbq.out _).mono hzs)⟩
    | true =>
      have hS := hide (hrv.1 rfl)
      have hTd := hide fun nq : Nat => hT.out.below (below_drewN wr nq)
      have hbd := hide fun nq : Nat => hb.out.trans ((below_drewN wr nq).mono hb.out.size)
      clear hrv
      go_quiet (fail)
      have q5 := hide (q4.out w5 (wr.drewN nq) hb5.out (hbd.out nq) bq _ c H _ (hTd.out nq) hM.out)
      have hbq := hide (hbd.out nq)
      have hTq := hide (hTd.out nq)
      clear hTd hbd x3 y1 y2 p0 p1 hT hbw hb
      generalize (wr.drewN nq) = wq at *
      have hsz := hbq.out.size
      go_upto_region 10 with (first | (go_at_call 42; (with_reducible refine q5.out.mono ?_); rintro e w7 ⟨bq7, A7, c7, H7, ch, rfl, hT7, hM7, hC7, hb7⟩; replace hT7 := hide hT7; replace hM7 := hide hM7; replace hC7 := hide hC7; replace hb7 := hide hb7))
      clear q5
      have hb8 := hide (hbq.out.trans (hb7.out.mono hsz))
      cases ch with
      | false =>
        have hst : ∀ x y, simR K n p et lt ep lp r x y → simR K n p et lt ep lp (r + 1) x y := stay_of fun h => by
          have hC : false = true ↔ _ := hC7.out
          exact absurd (hC.2 h) (by decide)
        have hm : misF (simR K n p et lt ep lp) (i : Int) (j : Int) = -1 := misF_eq (MisV.stop (n := r) (fun k hk => by
          rcases Nat.lt_or_ge k r with h | h
          · exact hall.out k h
          · obtain rfl : k = r := by omega
            exact hS.out) fun k h => simR_stay hst k _ _ h)
        have hve := hvT.out
        rw [hm, if_pos (by decide)] at hve
        replace hve := hide hve
        clear hm hst hS hM hall hvT hT7 hM7 hC7
        go_wp2_with fail
        go_ret2
        have hbz := hb5.out.trans (hb8.out.mono hb5.out.size)
        exact ⟨by rw [hve.out]; rfl, hb0.out.trans (hbz.mono hzs)⟩
      | true =>
        have hlt : cntM true (tabR n p (simR K n p et lt ep lp (r + 1))) < cntM true (tabR n p (simR K n p et lt ep lp r)) := cnt_less (fun x y h => h.1) ((show true = true ↔ _ from hC7.out).1 rfl)
        have hG2 : Hid (cntM true (tabR n p (simR K n p et lt ep lp (r + 1))) ≤ gk - 1) := by have := hG.out; show _ ≤ _; omega
        have hfw2 : Hid (r + 1 + cntM true (tabR n p (simR K n p et lt ep lp (r + 1))) ≤ 1600) := by have := hfw.out; show _ ≤ _; omega
        have hgk : 0 < gk := by have := hG.out; omega
        have hT8 := hide (hT7.out.lower hsz)
        have hall2 : Hid (∀ k, k < r + 1 → simR K n p et lt ep lp k (i : Int) (j : Int)) := fun k hk => by
          rcases Nat.lt_or_ge k r with h | h
          · exact hall.out k h
          · obtain rfl : k = r := by omega
            exact hS.out
        clear hlt hC7 hM hT7 hall hS
        go_wp2_with fail
        go_roundg (gk - 1)
        case measure => omega
        case rel => exact ⟨bq7, A7, c7, H7, r + 1, rfl, by go_num, hT8, hM7, hb8, hall2, hG2, hfw2⟩

end Go.Proofs.YthlaoedpjloloaaGreatDoor
