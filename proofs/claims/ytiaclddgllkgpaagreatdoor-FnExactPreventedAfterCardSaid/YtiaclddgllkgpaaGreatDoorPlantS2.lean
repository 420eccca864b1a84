/-
  The reference's test of plants, whole. Conditions: sizes.
-/
import Derived.Test.YtiaclddgllkgpaaGreatDoorPlantS
import Derived.Test.YtiaclddgllkgpaaGreatDoorBaseD
namespace Go.Proofs.YtiaclddgllkgpaaGreatDoor
open Go.ChangeShapes Go.WideShapes Go.ChangeAt Go.RowKit Go.Sort
set_option linter.unusedVariables false

def plantV (d : DL × List Int × List ByteArray) : Bool := detV d.1 && (risesB (d.1.1 - 1) d.2.1 && actsB d.2.2)

set_option maxHeartbeats 800000 in
theorem l29Free_calls (bt : Nat) (x : CL) (d : DL) (w : World) (h : LtsAt w bt x d) :
    Calls Tryz.prog 83 #[.pointer (some ⟨bt, 0, none⟩)] w fun e w' => e = .returned (.bool (detV d)) ∧ Below w.heap.size w w' := by
  have qa := l11Is_calls bt x d w h
  have qb := fun W (hW : Below w.heap.size w W) => l11Single_calls bt x d W (h.below hW (Nat.le_refl _))
  have hval : detV d = (ltsV d && detB d.2.2.2) := rfl
  clear h
  cases h1 : ltsV d with
  | false =>
    rw [h1] at qa hval
    have hv : Hid (detV d = false) := hval
    replace qa := hide qa
    clear qb hval h1
    go_enter Tryz.func83, Tryz.ntmps83
    go_wp2_with fail
    refine qa.out.mono ?_
    rintro e w1 ⟨rfl, hb⟩
    go_wp2_with fail
    go_ret
    exact ⟨ret_b (by rw [hv.out]), hb⟩
  | true =>
    rw [h1] at qa hval
    have hv : Hid (detV d = detB d.2.2.2) := hval
    replace qa := hide qa
    replace qb := hide qb
    clear hval h1
    go_enter Tryz.func83, Tryz.ntmps83
    go_wp2_with fail
    refine qa.out.mono ?_
    rintro e w1 ⟨rfl, hb⟩
    go_wp2_with fail
    refine (qb.out _ hb).mono ?_
    rintro e w2 ⟨rfl, hb2⟩
    go_wp2_with fail
    go_ret
    exact ⟨ret_b (by rw [hv.out]), hb.trans (hb2.mono hb.size)⟩

set_option maxRecDepth 100000 in
set_option maxHeartbeats 1600000 in
theorem l29Is_calls (bm : Nat) (x : CL) (A4 A5 : Option Addr) (n4 k4 n5 k5 : Nat) (d : DL) (vs : List Int) (ns : List ByteArray) (w : World) (h : LtsAt w bm x d) (hc4 : w.cell? ⟨bm, 4, none⟩ = some (.slice A4 n4 k4)) (hc5 : w.cell? ⟨bm, 5, none⟩ = some (.slice A5 n5 k5))
    (hn4 : n4 ≤ 1048576) (hn5 : n5 ≤ 1048576) (hs5 : ∀ s ∈ ns, s.size ≤ 1048576) (t4 : SlI w 0 w.heap.size A4 n4 vs) (t5 : SlS w 0 w.heap.size A5 n5 ns) :
    Calls Tryz.prog 65 #[.pointer (some ⟨bm, 0, none⟩)] w fun e w' => e = .returned (.bool (plantV (d, vs, ns))) ∧ Below w.heap.size w w' := by
  have qa : ∀ d' os, Calls Tryz.prog 83 #[.pointer (some ⟨bm, 0, none⟩)] (grow (redrawn w d') os) (fun e w'' => e = .returned (.bool (detV d)) ∧ ∃ p : Regrown, w'' = grow (redrawn w p.d) p.os) := fun d' os => Calls.regrown_of (l29Free_calls bm x d _ (h.below (below_regrown w d' os) (Nat.le_refl _)))
  have qb : ∀ d' os, Calls Tryz.prog 117 #[.slice A4 n4 k4, .int .i64 0, .int .i64 (x.1 - 1)] (grow (redrawn w d') os) (fun e w'' => e = .returned (.bool (risesB (x.1 - 1) vs)) ∧ ∃ p : Regrown, w'' = grow (redrawn w p.d) p.os) := fun d' os => Calls.regrown_of (l00Rises_calls A4 n4 k4 vs (x.1 - 1) _ _ _ (t4.below (below_regrown w d' os) (.inr (Nat.le_refl _))) hn4)
  have qc : ∀ d' os, Calls Tryz.prog 118 #[.slice A5 n5 k5] (grow (redrawn w d') os) (fun e w'' => e = .returned (.bool (actsB ns)) ∧ ∃ p : Regrown, w'' = grow (redrawn w p.d) p.os) := fun d' os => Calls.regrown_of (l05Names_calls A5 n5 k5 ns _ _ _ (t5.below (below_regrown w d' os) (.inr (Nat.le_refl _))) hn5 hs5)
  have hval : plantV (d, vs, ns) = (detV d && (risesB (d.1 - 1) vs && actsB ns)) := rfl
  obtain ⟨s0, s1, v2, v3⟩ := x
  obtain ⟨st, ini, ls, es⟩ := d
  obtain ⟨⟨e0, -, -, -⟩, -, hbm, c0, -, -, -⟩ := h
  dsimp only at *
  subst e0
  have f0 := fun d os => cell_regrown c0 d os
  have f4 := fun d os => cell_regrown hc4 d os
  have f5 := fun d os => cell_regrown hc5 d os
  clear t4 t5 hs5
  cases h1 : detV (s0, ini, ls, es) with
  | false =>
    rw [h1] at hval
    simp only [h1] at qa
    have hv : Hid (plantV ((s0, ini, ls, es), vs, ns) = false) := hval
    replace qa := hide qa
    clear qb qc hval h1
    go_enter Tryz.func65, Tryz.ntmps65
    go_wp2
    refine wp_region_quiet_below (by kernel_rfl) (by kernel_rfl) ?_
    repeat (go_big_quiet_step (first | (with_reducible exact qa.out _ _)))
    refine wpQuiet_nil ?_
    intro _ hw'
    obtain ⟨⟨dq, osq⟩, hw''⟩ := hw'
    subst hw''
    have hbq := below_regrown w dq osq
    generalize grow (redrawn w dq) osq = wq at *
    go_wp2
    go_ret
    exact ⟨ret_b (by rw [hv.out]), hbq⟩
  | true =>
  rw [h1] at hval
  simp only [h1] at qa
  replace qa := hide qa
  have hst : inB s0 1 40 = true := by
    unfold detV at h1
    rw [Bool.and_eq_true] at h1
    have h2 := h1.1
    unfold ltsV ltsB at h2
    simp only [Bool.and_eq_true] at h2
    exact h2.1.1.1.1
  have hst1 := (inB_true.1 hst).1
  have hst2 := (inB_true.1 hst).2
  clear h1 hst
  cases h2 : risesB (s0 - 1) vs with
  | false =>
    rw [h2] at hval
    simp only [h2] at qb
    have hv : Hid (plantV ((s0, ini, ls, es), vs, ns) = false) := hval
    replace qb := hide qb
    clear qc hval h2
    go_enter Tryz.func65, Tryz.ntmps65
    go_wp2
    refine wp_region_quiet_below (by kernel_rfl) (by kernel_rfl) ?_
    repeat (go_big_quiet_step (first | (with_reducible exact qa.out _ _) | (with_reducible exact qb.out _ _)))
    refine wpQuiet_nil ?_
    intro _ hw'
    obtain ⟨⟨dq, osq⟩, hw''⟩ := hw'
    subst hw''
    have hbq := below_regrown w dq osq
    generalize grow (redrawn w dq) osq = wq at *
    go_wp2
    go_ret
    exact ⟨ret_b (by rw [hv.out]), hbq⟩
  | true =>
  rw [h2] at hval
  simp only [h2] at qb
  have hv : Hid (plantV ((s0, ini, ls, es), vs, ns) = actsB ns) := hval
  replace qb := hide qb
  replace qc := hide qc
  clear hval h2
  go_enter Tryz.func65, Tryz.ntmps65
  go_wp2
  refine wp_region_quiet_below (by kernel_rfl) (by kernel_rfl) ?_
  repeat (go_big_quiet_step (first | (with_reducible exact qa.out _ _) | (with_reducible exact qb.out _ _) | (with_reducible exact qc.out _ _)))
  refine wpQuiet_nil ?_
  intro _ hw'
  obtain ⟨⟨dq, osq⟩, hw''⟩ := hw'
  subst hw''
  have hbq := below_regrown w dq osq
  generalize grow (redrawn w dq) osq = wq at *
  go_wp2
  go_ret
  exact ⟨ret_b (by rw [hv.out]), hbq⟩

end Go.Proofs.YtiaclddgllkgpaaGreatDoor
