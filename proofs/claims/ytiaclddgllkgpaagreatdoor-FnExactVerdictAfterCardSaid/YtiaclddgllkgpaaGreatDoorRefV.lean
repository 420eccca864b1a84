/-
  VerdictAfter, by the reference. Conditions: sizes.
-/
import Derived.Test.YtiaclddgllkgpaaGreatDoorRefM
import Derived.Test.YtiaclddgllkgpaaGreatDoorRefN
import Derived.Deep.DeepCutAuto
import Derived.Test.YtiaclddgllkgpaaGreatDoorVerU2
namespace Go.Proofs.YtiaclddgllkgpaaGreatDoor
open Go.ChangeShapes Go.WideShapes Go.ChangeAt Go.RowKit Go.Sort
set_option linter.unusedVariables false
set_option linter.unusedSimpArgs false

theorem l30Ask_calls (bt bp : Nat) (x y : CL) (d s : DL) (w : World) (h : LtsAt w bt x d) (g : LtsAt w bp y s) :
    Calls Tryz.prog 98 #[.pointer (some ⟨bt, 0, none⟩), .pointer (some ⟨bp, 0, none⟩)] w fun e w' => e = .returned (.int .i64 (obsC d s)) ∧ Below w.heap.size w w' := by
  have q1 := l11Is_calls bt x d w h
  have q2 := fun (W : World) (hW : Below w.heap.size w W) => l11Is_calls bp y s W (g.below hW (Nat.le_refl _))
  have q3 := fun (W : World) (hW : Below w.heap.size w W) => l11Single_calls bp y s W (g.below hW (Nat.le_refl _))
  have hob : Hid (obsC d s = if ltsV d = true ∧ ltsV s = true then (if detV s = true then 0 else 6) else 1) := rfl
  have hdv : detV s = (ltsV s && detB s.2.2.2) := rfl
  clear h g
  cases hd : ltsV d with
  | false =>
    rw [hd] at q1 hob
    replace q1 := hide q1
    replace hob : Hid (obsC d s = 1) := hob.out.trans (if_neg (by simp))
    clear hd q2 q3 hdv
    go_enter Tryz.func98, Tryz.ntmps98
    go_wp2_with (first | (go_at_call 111; (with_reducible refine q1.out.mono ?_); rintro e w5 ⟨rfl, hb5⟩; replace hb5 := hide hb5))
    go_ret
    exact ⟨ret_i (by rw [hob.out]), hb5.out⟩
  | true =>
    rw [hd] at q1 hob
    replace q1 := hide q1
    clear hd
    cases hs : ltsV s with
    | false =>
      rw [hs] at q2 hob
      replace q2 := hide q2
      replace hob : Hid (obsC d s = 1) := hob.out.trans (if_neg (by simp))
      clear hs q3 hdv
      go_enter Tryz.func98, Tryz.ntmps98
      go_wp2_with (first | (go_at_call 111; (with_reducible refine q1.out.mono ?_); rintro e w5 ⟨rfl, hb5⟩; have q4 := hide (q2.out w5 hb5); clear q1; replace hb5 := hide hb5) | (go_at_call 111; (with_reducible refine q4.out.mono ?_); rintro e w6 ⟨rfl, hb6⟩; replace hb6 := hide hb6))
      go_ret
      exact ⟨ret_i (by rw [hob.out]), hb5.out.trans (hb6.out.mono hb5.out.size)⟩
    | true =>
      rw [hs, Bool.true_and] at hdv
      rw [hs] at q2 hob
      replace q2 := hide q2
      clear hs
      cases hp : detB s.2.2.2 with
      | false =>
        rw [hp] at q3 hdv
        replace q3 := hide q3
        replace hob : Hid (obsC d s = 6) := by show _ = _; rw [hob.out, hdv]; rfl
        clear hp hdv
        go_enter Tryz.func98, Tryz.ntmps98
        go_wp2_with (first | (go_at_call 111; (with_reducible refine q1.out.mono ?_); rintro e w5 ⟨rfl, hb5⟩; have q4 := hide (q2.out w5 hb5); clear q1; replace hb5 := hide hb5) | (go_at_call 111; (with_reducible refine q4.out.mono ?_); rintro e w6 ⟨rfl, hb6⟩; have hb7 := hb5.out.trans (hb6.mono hb5.out.size); have q5 := hide (q3.out w6 hb7); clear q4; replace hb7 := hide hb7; clear hb6) | (go_at_call 112; (with_reducible refine q5.out.mono ?_); rintro e w8 ⟨rfl, hb8⟩; replace hb8 := hide hb8))
        go_ret
        exact ⟨ret_i (by rw [hob.out]), hb7.out.trans (hb8.out.mono hb7.out.size)⟩
      | true =>
        rw [hp] at q3 hdv
        replace q3 := hide q3
        replace hob : Hid (obsC d s = 0) := by show _ = _; rw [hob.out, hdv]; rfl
        clear hp hdv
        go_enter Tryz.func98, Tryz.ntmps98
        go_wp2_with (first | (go_at_call 111; (with_reducible refine q1.out.mono ?_); rintro e w5 ⟨rfl, hb5⟩; have q4 := hide (q2.out w5 hb5); clear q1; replace hb5 := hide hb5) | (go_at_call 111; (with_reducible refine q4.out.mono ?_); rintro e w6 ⟨rfl, hb6⟩; have hb7 := hb5.out.trans (hb6.mono hb5.out.size); have q5 := hide (q3.out w6 hb7); clear q4; replace hb7 := hide hb7; clear hb6) | (go_at_call 112; (with_reducible refine q5.out.mono ?_); rintro e w8 ⟨rfl, hb8⟩; replace hb8 := hide hb8))
        go_ret
        exact ⟨ret_i (by rw [hob.out]), hb7.out.trans (hb8.out.mono hb7.out.size)⟩

theorem inM_flat {n p : Nat} {f : List Bool} {M : List (List Bool)} (h : FlatM n p f M) {x y : Nat} (hx : x < n) (hy : y < p) : inM M (y : Int) (x : Int) = inS f (x * p + y) := by
  unfold inM
  rw [Int.toNat_natCast, Int.toNat_natCast, h.get hx hy, Option.getD_some]

set_option maxRecDepth 100000 in
set_option maxHeartbeats 3200000 in
theorem l30Verdict_calls (bp n p BL BS N : Nat) (fL fS : List Bool) (ML MS : List (List Bool)) (A1 : Option Addr) (n1 c1 : Nat) (l : List Int) (q : Int) (w : World) (lo hi : Nat) (g0 : w.cell? ⟨bp, 0, none⟩ = some (.int .i64 (p : Int))) (hbp : bp < w.heap.size) (hn : n ≤ 40) (hp : p ≤ 40) (hN : N = n * p)
    (hL : BoB w BL N fL) (hS : BoB w BS N fS) (iL : FlatM n p fL ML) (iS : FlatM n p fS MS) (t1 : SlI w lo hi A1 n1 l) (hn1 : n1 ≤ 1048576) (hl : ∀ x, x ∈ l → 0 ≤ x ∧ x < (n : Int)) (hq : q < (p : Int)) :
    Calls Tryz.prog 101 #[.pointer (some ⟨bp, 0, none⟩), .slice (some ⟨BL, 0, none⟩) N N, .slice (some ⟨BS, 0, none⟩) N N, .slice A1 n1 c1, .int .i64 q] w fun e w' => e = .returned (.int .i64 (vdB q l (inM ML q) (inM MS q))) ∧ Below w.heap.size w w' := by
  by_cases hq0 : q < 0
  · have hr : Hid (vdB q l (inM ML q) (inM MS q) = 2) := if_pos hq0
    clear hL hS iL iS t1 g0
    go_enter Tryz.func101, Tryz.ntmps101
    go_wp2_with fail
    go_ret
    exact ⟨ret_i (by rw [hr.out]), Below.refl _ _⟩
  obtain ⟨y, rfl⟩ : ∃ y : Nat, q = (y : Int) := ⟨q.toNat, by omega⟩
  have hy : y < p := by omega
  have hr : Hid (vdB (y : Int) l (inM ML (y : Int)) (inM MS (y : Int)) = if l.any (inM ML (y : Int)) = false then 1 else if l.any (inM MS (y : Int)) = false then 2 else 0) := if_neg hq0
  have hN16 : N ≤ 1600 := by subst hN; exact Nat.mul_le_mul hn hp
  have l1 := hide t1.len
  replace hL := hide hL
  replace hS := hide hS
  replace iL := hide iL
  replace iS := hide iS
  replace t1 := hide t1
  replace hl := hide hl
  replace hN := hide hN
  go_enter Tryz.func101, Tryz.ntmps101
  go_upto_region 6 with fail
  go_loopg [11, 12, 13] n1 (fun G a b i wr => ∃ (k : Nat), k ≤ n1 ∧ a = .bool ((l.take k).any (inM ML (y : Int))) ∧ b = .bool ((l.take k).any (inM MS (y : Int))) ∧ i = .int .i64 (k : Nat) ∧ (∃ nq, wr = w.drewN nq) ∧ Hid (n1 - k ≤ G))
  case atStart => exact ⟨0, Nat.zero_le _, rfl, rfl, rfl, ⟨0, rfl⟩, by show _ ≤ _; omega⟩
  case round =>
    obtain ⟨k, hk, rfl, rfl, rfl, ⟨nq0, rfl⟩, hG⟩ := hrel
    by_cases hlt : k < n1
    · obtain ⟨G2, rfl⟩ : ∃ G2, gk = G2 + 1 := ⟨gk - 1, by have := hG.out; omega⟩
      have hG2 : Hid (n1 - (k + 1) ≤ G2) := by have := hG.out; show _ ≤ _; omega
      obtain ⟨b, off, u, rfl, -, -, g3, hx, p0, -⟩ := SlI.get t1.out hlt
      have hu := hl.out u (List.mem_of_getElem? hx)
      obtain ⟨x, rfl⟩ : ∃ x : Nat, u = (x : Int) := ⟨u.toNat, by omega⟩
      have hxn : x < n := by omega
      have hk2 := flat_lt hxn hy
      rw [← hN.out] at hk2
      obtain ⟨a0, -, -, -⟩ := hL.out.get hk2
      obtain ⟨a1, -, -, -⟩ := hS.out.get hk2
      have hw1 := wrap_mul (a := x) (b := p) (by omega) (by omega)
      have hw2 := wrap_at (a := x) (b := p) (c := y) (by omega) (by omega) (by omega)
      rw [hw1] at hw2
      have vL := inM_flat iL.out hxn hy
      have vS := inM_flat iS.out hxn hy
      have tL := any_take2 (G := inM ML (y : Int)) hx
      have tS := any_take2 (G := inM MS (y : Int)) hx
      rw [vL] at tL
      rw [vS] at tS
      generalize x * p + y = k2 at *
      generalize x * p = m1 at *
      have hK2 : (0 : Int) ≤ (k2 : Int) := by omega
      have hK3 : (k2 : Int) < (N : Int) := by omega
      have hI0 : (0 : Int) ≤ (k : Int) := by omega
      have hI1 : (k : Int) < (n1 : Int) := by omega
      have hp0' : (w.drewN nq0).cell? ⟨b, off + k, none⟩ = some (.int .i64 (x : Int)) := p0
      have hg0' : (w.drewN nq0).cell? ⟨bp, 0, none⟩ = some (.int .i64 (p : Int)) := g0
      have ha0' : (w.drewN nq0).cell? ⟨BL, k2, none⟩ = some (.bool (inS fL k2)) := a0
      have ha1' : (w.drewN nq0).cell? ⟨BS, k2, none⟩ = some (.bool (inS fS k2)) := a1
      generalize (l.take k).any (inM ML (y : Int)) = gl at *
      generalize (l.take k).any (inM MS (y : Int)) = gs at *
      replace tL := hide tL
      replace tS := hide tS
      clear hx hu vL vS hr
      go_upto_region 8 with fail
      go_cut [11] (fun s wx => s = .bool (gl || inS fL k2) ∧ ∃ nq, wx = w.drewN nq)
      case first =>
        clear tL tS ha1' a1
        cases gl with
        | true =>
          go_quiet (fail)
          all_goals (go_wp2_with fail; go_meet)
          all_goals exact ⟨by rw [Bool.true_or], nq0 + nq, by rw [World.drewN_drewN]⟩
        | false =>
          go_quiet (fail)
          all_goals (go_wp2_with fail; go_meet)
          all_goals exact ⟨by rw [Bool.false_or], nq0 + nq, by rw [World.drewN_drewN]⟩
      case rest =>
      obtain ⟨rfl, nq1, rfl⟩ := hcut
      have hp1 : (w.drewN nq1).cell? ⟨b, off + k, none⟩ = some (.int .i64 (x : Int)) := hp0'
      have hg1 : (w.drewN nq1).cell? ⟨bp, 0, none⟩ = some (.int .i64 (p : Int)) := hg0'
      have hb1 : (w.drewN nq1).cell? ⟨BS, k2, none⟩ = some (.bool (inS fS k2)) := ha1'
      clear hp0' hg0' ha0' ha1' a0
      go_upto_region 9 with fail
      cases gs with
      | true =>
        go_quiet (fail)
        go_wp2_with fail
        go_roundg G2
        case measure => omega
        case rel => exact ⟨k + 1, by omega, by rw [tL.out], by rw [tS.out, Bool.true_or], by go_num, ⟨nq1 + nq, rfl⟩, hG2⟩
      | false =>
        go_quiet (fail)
        go_wp2_with fail
        go_roundg G2
        case measure => omega
        case rel => exact ⟨k + 1, by omega, by rw [tL.out], by rw [tS.out, Bool.false_or], by go_num, ⟨nq1 + nq, rfl⟩, hG2⟩
    · have hkn : k = n1 := by omega
      subst hkn
      have hall : l.take k = l := List.take_of_length_le (by rw [l1.out]; exact Nat.le_refl _)
      have hbq : Hid (Below w.heap.size w (w.drewN nq0)) := ⟨(Below.refl w.heap.size w).os, (Below.refl w.heap.size w).tape, (Below.refl w.heap.size w).output, (Below.refl w.heap.size w).size, (Below.refl w.heap.size w).block⟩
      rw [hall]
      cases h1 : l.any (inM ML (y : Int)) with
      | false =>
        have hv : Hid (vdB (y : Int) l (inM ML (y : Int)) (inM MS (y : Int)) = 1) := hr.out.trans (if_pos h1)
        clear h1 hr
        go_wp2_with fail
        go_ret
        exact ⟨ret_i (by rw [hv.out]), hbq.out⟩
      | true =>
        cases h2 : l.any (inM MS (y : Int)) with
        | false =>
          have hv : Hid (vdB (y : Int) l (inM ML (y : Int)) (inM MS (y : Int)) = 2) := hr.out.trans ((if_neg (by rw [h1]; decide)).trans (if_pos h2))
          clear h1 h2 hr
          go_wp2_with fail
          go_ret
          exact ⟨ret_i (by rw [hv.out]), hbq.out⟩
        | true =>
          have hv : Hid (vdB (y : Int) l (inM ML (y : Int)) (inM MS (y : Int)) = 0) := hr.out.trans ((if_neg (by rw [h1]; decide)).trans (if_neg (by rw [h2]; decide)))
          clear h1 h2 hr
          go_wp2_with fail
          go_ret
          exact ⟨ret_i (by rw [hv.out]), hbq.out⟩

end Go.Proofs.YtiaclddgllkgpaaGreatDoor
