/-
  The reference's test of monitors. Conditions: sizes.
-/
import Derived.Test.YtiaclddgllkgpaaGreatDoorLtsS4
namespace Go.Proofs.YtiaclddgllkgpaaGreatDoor
open Go.ChangeShapes Go.WideShapes Go.ChangeAt Go.RowKit Go.Sort
set_option linter.unusedVariables false

def okVd (es : List Ed) (vs : List Int) (k : Nat) : Bool := match vs[k]? with
  | some v => inB v 0 2 && (decide (v = 0) || (outE es (k : Int)).isEmpty)
  | none => true
def monV (d : DL × List Int) : Bool := (ltsV d.1 && detB d.1.2.2.2) && (decide ((d.2.length : Int) = d.1.1) && allK (okVd d.1.2.2.2 d.2) d.2.length)
theorem okVd_at {es : List Ed} {vs : List Int} {k : Nat} {v : Int} (hx : vs[k]? = some v) : okVd es vs k = (inB v 0 2 && (decide (v = 0) || (outE es (k : Int)).isEmpty)) := by
  unfold okVd
  rw [hx]

set_option maxRecDepth 100000 in
set_option maxHeartbeats 1600000 in
theorem l30Is_calls (bm : Nat) (x : CL) (A4 : Option Addr) (n4 k4 : Nat) (d : DL) (vs : List Int) (w : World) (h : LtsAt w bm x d) (hc4 : w.cell? ⟨bm, 4, none⟩ = some (.slice A4 n4 k4)) (hn4 : n4 ≤ 1048576) (t4 : SlI w 0 w.heap.size A4 n4 vs) :
    Calls Tryz.prog 57 #[.pointer (some ⟨bm, 0, none⟩)] w fun e w' => e = .returned (.bool (monV (d, vs))) ∧ Below w.heap.size w w' := by
  have qa : ∀ d' os, Calls Tryz.prog 111 #[.pointer (some ⟨bm, 0, none⟩)] (grow (redrawn w d') os) (fun e w'' => e = .returned (.bool (ltsV d)) ∧ ∃ p : Regrown, w'' = grow (redrawn w p.d) p.os) := fun d' os => Calls.regrown_of (l11Is_calls bm x d _ (h.below (below_regrown w d' os) (Nat.le_refl _)))
  have qb : ∀ d' os, Calls Tryz.prog 112 #[.pointer (some ⟨bm, 0, none⟩)] (grow (redrawn w d') os) (fun e w'' => e = .returned (.bool (detB d.2.2.2)) ∧ ∃ p : Regrown, w'' = grow (redrawn w p.d) p.os) := fun d' os => Calls.regrown_of (l11Single_calls bm x d _ (h.below (below_regrown w d' os) (Nat.le_refl _)))
  have l4 := t4.len
  have hval : monV (d, vs) = ((ltsV d && detB d.2.2.2) && (decide ((n4 : Int) = d.1) && allK (okVd d.2.2.2 vs) n4)) := by rw [← l4]; rfl
  obtain ⟨s0, s1, v2, v3⟩ := x
  obtain ⟨st, ini, ls, es⟩ := d
  have hL := hide h
  obtain ⟨⟨e0, -, -, -⟩, -, hbm, c0, -, -, -⟩ := h
  dsimp only at *
  subst e0
  replace l4 := hide l4
  replace t4 := hide t4
  have f0 := fun d os => cell_regrown c0 d os
  have f4 := fun d os => cell_regrown hc4 d os
  cases h1 : ltsV (s0, ini, ls, es) with
  | false =>
    rw [h1] at hval
    simp only [h1] at qa
    have hv : Hid (monV ((s0, ini, ls, es), vs) = false) := hval
    replace qa := hide qa
    clear qb hval h1 hL
    go_enter Tryz.func57, Tryz.ntmps57
    go_wp2
    refine wp_region_quiet_below (by kernel_rfl) (by kernel_rfl) ?_
    repeat (go_big_quiet_step (first | (with_reducible exact qa.out _ _)))
    refine wpQuiet_nil ?_
    intro _ hw'
    obtain ⟨⟨dq, osq⟩, hw''⟩ := hw'
    subst hw''
    have hbq := below_regrown w dq osq
    generalize grow (redrawn w dq) osq = wq at *
    go_wp2
    go_ret
    exact ⟨ret_b (by rw [hv.out]), hbq⟩
  | true =>
  rw [h1] at hval
  simp only [h1] at qa
  replace qa := hide qa
  cases h2 : detB es with
  | false =>
    rw [h2] at hval
    simp only [h2] at qb
    have hv : Hid (monV ((s0, ini, ls, es), vs) = false) := hval
    replace qb := hide qb
    clear hval h1 h2 hL
    go_enter Tryz.func57, Tryz.ntmps57
    go_wp2
    refine wp_region_quiet_below (by kernel_rfl) (by kernel_rfl) ?_
    repeat (go_big_quiet_step (first | (with_reducible exact qa.out _ _) | (with_reducible exact qb.out _ _)))
    refine wpQuiet_nil ?_
    intro _ hw'
    obtain ⟨⟨dq, osq⟩, hw''⟩ := hw'
    subst hw''
    have hbq := below_regrown w dq osq
    generalize grow (redrawn w dq) osq = wq at *
    go_wp2
    go_ret
    exact ⟨ret_b (by rw [hv.out]), hbq⟩
  | true =>
  rw [h2] at hval
  simp only [h2] at qb
  replace qb := hide qb
  by_cases h3 : (n4 : Int) = s0
  case neg =>
    rw [decide_eq_false h3] at hval
    have hv : Hid (monV ((s0, ini, ls, es), vs) = false) := hval
    have h3b : ((n4 : Int) != s0) = true := by rw [bne_iff_ne]; exact h3
    clear hval h1 h2 hL h3
    go_enter Tryz.func57, Tryz.ntmps57
    go_wp2
    refine wp_region_quiet_below (by kernel_rfl) (by kernel_rfl) ?_
    repeat (go_big_quiet_step (first | (with_reducible exact qa.out _ _) | (with_reducible exact qb.out _ _)))
    refine wpQuiet_nil ?_
    intro _ hw'
    obtain ⟨⟨dq, osq⟩, hw''⟩ := hw'
    subst hw''
    have hbq := below_regrown w dq osq
    generalize grow (redrawn w dq) osq = wq at *
    go_wp2
    go_ret
    exact ⟨ret_b (by rw [hv.out]), hbq⟩
  rw [decide_eq_true h3] at hval
  have hval2 : Hid (monV ((s0, ini, ls, es), vs) = allK (okVd es vs) n4) := by show _ = _; rw [hval]; rfl
  subst h3
  clear hval h1 h2
  go_enter Tryz.func57, Tryz.ntmps57
  go_wp2
  refine wp_region_quiet_below (by kernel_rfl) (by kernel_rfl) ?_
  repeat (go_big_quiet_step (first | (with_reducible exact qa.out _ _) | (with_reducible exact qb.out _ _)))
  refine wpQuiet_nil ?_
  intro _ hw'
  obtain ⟨⟨dq, osq⟩, hw''⟩ := hw'
  subst hw''
  have hbq := below_regrown w dq osq
  generalize grow (redrawn w dq) osq = wq at *
  clear f0 f4 qa qb
  have m4 := (hbq.cell (p := ⟨bm, 4, none⟩) hbm).trans hc4
  replace hbq := hide hbq
  go_wp2
  go_loopw [3] (fun i wr => ∃ k : Nat, k ≤ n4 ∧ i = .int .i64 (k : Nat) ∧ Hid (∀ j, j < k → okVd es vs j = true) ∧ Below w.heap.size w wr) (fun i _ => n4 - (intOf i).toNat)
  case atStart => exact ⟨0, Nat.zero_le _, rfl, fun j hj => absurd hj (by omega), hbq.out⟩
  case round =>
    clear m4
    obtain ⟨k, hk, rfl, ha, hb⟩ := hrel
    have y4 := (hb.cell (p := ⟨bm, 4, none⟩) hbm).trans hc4
    by_cases hlt : k < n4
    · obtain ⟨b, off, v, rfl, g1, g2, g3, hx, p0, -⟩ := SlI.get t4.out hlt
      replace p0 := (hb.cell (p := ⟨b, off + k, none⟩) g3).trans p0
      have hok := okVd_at (es := es) hx
      have qo := l11Out_calls bm _ _ (k : Int) wr (hL.out.below hb (Nat.le_refl _))
      dsimp only at qo
      replace qo := hide qo
      replace hb := hide hb
      clear hx g1 g2 g3
      cases z0 : inB v 0 2 with
      | false =>
        rw [z0] at hok
        have hv : Hid (monV (((n4 : Int), ini, ls, es), vs) = false) := by show _ = _; rw [hval2.out]; exact allK_bad hlt hok
        clear hok ha qo hL t4
        go_wp2_with (first | (go_at_call 113; (with_reducible refine (l00In_calls _ _ _ _).mono ?_); rintro e w' ⟨rfl, rfl⟩))
        go_ret
        exact ⟨ret_b (by rw [hv.out]), hb.out⟩
      | true =>
      rw [z0, Bool.true_and] at hok
      by_cases hv0 : v = 0
      · have hnext : Hid (∀ j, j < k + 1 → okVd es vs j = true) := lt_succ_cases ha.out (by rw [hok, decide_eq_true hv0]; rfl)
        subst hv0
        clear hok ha qo
        go_wp2_with (first | (go_at_call 113; (with_reducible refine (l00In_calls _ _ _ _).mono ?_); rintro e w' ⟨rfl, rfl⟩))
        go_roundw
        case rel => exact ⟨k + 1, by omega, by go_num, hnext, hb.out⟩
        case measure => simp [intOf]; omega
      rw [decide_eq_false hv0, Bool.false_or] at hok
      have hvb : (v != 0) = true := by rw [bne_iff_ne]; exact hv0
      have hvb2 : (v == 0) = false := by rw [beq_eq_false_iff_ne]; exact hv0
      clear hv0
      cases ho : (outE es (k : Int)).isEmpty with
      | true =>
        have hnext : Hid (∀ j, j < k + 1 → okVd es vs j = true) := lt_succ_cases ha.out (by rw [hok, ho])
        have ho2 : outE es (k : Int) = [] := List.isEmpty_iff.1 ho
        have qo2 : Hid (Calls Tryz.prog 87 #[.pointer (some ⟨bm, 0, none⟩), .int .i64 (k : Int)] wr fun e w' => ∃ A c, e = .returned (.slice A 0 c) ∧ Below wr.heap.size wr w') := qo.out.mono fun e w' ⟨A, n, c, h1, h2, _, h4⟩ => by
          rw [ho2] at h2
          have := h2.len
          simp at this
          subst this
          exact ⟨A, c, h1, h4⟩
        clear hok ha ho ho2 qo
        go_wp2_with (first | (go_at_call 113; (with_reducible refine (l00In_calls _ _ _ _).mono ?_); rintro e w' ⟨rfl, rfl⟩) | (go_at_call 87; (with_reducible refine qo2.out.mono ?_); rintro e w2 ⟨A5, c5, rfl, hb2⟩; replace hb2 := hide hb2))
        go_roundw
        case rel => exact ⟨k + 1, by omega, by go_num, hnext, hb.out.trans (hb2.out.mono hb.out.size)⟩
        case measure => simp [intOf]; omega
      | false =>
        have hv : Hid (monV (((n4 : Int), ini, ls, es), vs) = false) := by show _ = _; rw [hval2.out]; exact allK_bad hlt (by rw [hok, ho])
        have qo2 : Hid (Calls Tryz.prog 87 #[.pointer (some ⟨bm, 0, none⟩), .int .i64 (k : Int)] wr fun e w' => ∃ A n c, e = .returned (.slice A n c) ∧ (0 : Int) < (n : Int) ∧ Below wr.heap.size wr w') := qo.out.mono fun e w' ⟨A, n, c, h1, h2, _, h4⟩ => by
          have hl := h2.len
          have : outE es (k : Int) ≠ [] := fun e => by rw [e] at ho; cases ho
          have : (outE es (k : Int)).length ≠ 0 := fun e => this (List.eq_nil_of_length_eq_zero e)
          exact ⟨A, n, c, h1, by omega, h4⟩
        clear hok ha ho qo hL t4
        go_wp2_with (first | (go_at_call 113; (with_reducible refine (l00In_calls _ _ _ _).mono ?_); rintro e w' ⟨rfl, rfl⟩) | (go_at_call 87; (with_reducible refine qo2.out.mono ?_); rintro e w2 ⟨A5, n5, c5, rfl, hn5, hb2⟩; replace hb2 := hide hb2))
        go_ret
        exact ⟨ret_b (by rw [hv.out]), hb.out.trans (hb2.out.mono hb.out.size)⟩
    · have hkn : k = n4 := by omega
      subst hkn
      have hv : Hid (monV (((k : Int), ini, ls, es), vs) = true) := by show _ = _; rw [hval2.out]; exact allK_good ha.out
      go_wp2_with fail
      go_ret
      exact ⟨ret_b (by rw [hv.out]), hb⟩

end Go.Proofs.YtiaclddgllkgpaaGreatDoor
