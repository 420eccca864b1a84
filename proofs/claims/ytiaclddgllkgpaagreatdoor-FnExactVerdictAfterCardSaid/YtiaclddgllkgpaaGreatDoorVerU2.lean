/-
  VerdictAfter, by the program: the states and the whole. Conditions: sizes.
-/
import Derived.Test.YtiaclddgllkgpaaGreatDoorVerU
namespace Go.Proofs.YtiaclddgllkgpaaGreatDoor
open Go.ChangeShapes Go.WideShapes Go.ChangeAt Go.RowKit Go.Sort
set_option linter.unusedVariables false
set_option linter.unusedSimpArgs false

/-- What AfterTrace returns for a valid system. -/
def AftR (w w' : World) (d : DL) (tr : List ByteArray) (e : Ending) : Prop :=
  Below w.heap.size w w' ∧ ((visB tr = false ∧ e = .returned (.tuple #[.slice none 0 0, .int .i64 2])) ∨
    (visB tr = true ∧ (¬ ∃ v, AftC d.2.2.2 d.2.2.1 (· = d.2.1) tr v) ∧ e = .returned (.tuple #[.slice none 0 0, .int .i64 3])) ∨
    (visB tr = true ∧ (∃ v, AftC d.2.2.2 d.2.2.1 (· = d.2.1) tr v) ∧ ∃ A n c R, e = .returned (.tuple #[.slice A n c, .int .i64 0]) ∧ SlI w' w.heap.size w'.heap.size A n R ∧ n ≤ 340 ∧ ∀ v, v ∈ R ↔ AftC d.2.2.2 d.2.2.1 (· = d.2.1) tr v))

set_option maxRecDepth 100000 in
set_option maxHeartbeats 1600000 in
theorem aftTrace_calls (s0 s1 : Int) (A2 : Option Addr) (n2 k2 : Nat) (A3 : Option Addr) (n3 k3 : Nat) (A1 : Option Addr) (n1 c1 : Nat) (lt : List ByteArray) (et : List Ed) (tr : List ByteArray) (w : World) (lo hi lo1 hi1 : Nat)
    (h : ReadL w lo hi (s0, s1, .slice A2 n2 k2, .slice A3 n3 k3) (s0, s1, lt, et)) (t2 : SlS w lo hi A2 n2 lt) (t3 : SlE w lo hi A3 n3 et) (ht : totL (s0, s1, lt, et) ≤ 1048576) (hT : TraceAt w lo1 hi1 A1 n1 tr) (he : Env w) (hval : ltsV (s0, s1, lt, et) = true) :
    Calls Tryz.prog 105 #[(.agg #[.int .i64 s0, .int .i64 s1, .slice A2 n2 k2, .slice A3 n3 k3]), .slice A1 n1 c1] w fun e w' => AftR w w' (s0, s1, lt, et) tr e := by
  have hb0 : Below w.heap.size w (w.alloc (.cells #[.int .i64 s0, .int .i64 s1, .slice A2 n2 k2, .slice A3 n3 k3] 33)) := (Below.refl _ _).alloc (Nat.le_refl _) _
  have k0 := heap_alloc_new w (.cells #[.int .i64 s0, .int .i64 s1, .slice A2 n2 k2, .slice A3 n3 k3] 33)
  have hbt : w.heap.size < (w.alloc (.cells #[.int .i64 s0, .int .i64 s1, .slice A2 n2 k2, .slice A3 n3 k3] 33)).heap.size := by rw [World.size_alloc]; omega
  have hes : n3 ≤ 1048576 := by rw [← t3.len]; exact Nat.le_trans (totL_edg (s0, s1, lt, et)) ht
  have q1 := validLts_calls _ (s0, s1, lt, et) _ lo hi (h.below hb0 (.inr (Nat.le_refl _))) ht (he.below hb0 (Nat.le_refl _))
  dsimp only at q1
  rw [hval] at q1
  replace q1 := hide q1
  have q2 := fun (W : World) (hW : Below (w.alloc (.cells #[.int .i64 s0, .int .i64 s1, .slice A2 n2 k2, .slice A3 n3 k3] 33)).heap.size (w.alloc (.cells #[.int .i64 s0, .int .i64 s1, .slice A2 n2 k2, .slice A3 n3 k3] 33)) W) => areVisible_calls A1 n1 c1 tr W lo1 hi1 ((hT.below hb0 (.inr (Nat.le_refl _))).below hW (.inr (Nat.le_refl _))).sl hT.len hT.each ((he.below hb0 (Nat.le_refl _)).below hW (Nat.le_refl _))
  have q3 := hide fun (W : World) (hW : Below (w.alloc (.cells #[.int .i64 s0, .int .i64 s1, .slice A2 n2 k2, .slice A3 n3 k3] 33)).heap.size (w.alloc (.cells #[.int .i64 s0, .int .i64 s1, .slice A2 n2 k2, .slice A3 n3 k3] 33)) W) => after_calls s0 s1 A2 n2 k2 A3 n3 k3 A1 n1 c1 tr lt et W lo hi lo1 hi1 ((t2.below hb0 (.inr (Nat.le_refl _))).below hW (.inr (Nat.le_refl _))) ((t3.below hb0 (.inr (Nat.le_refl _))).below hW (.inr (Nat.le_refl _))) ((hT.below hb0 (.inr (Nat.le_refl _))).below hW (.inr (Nat.le_refl _))).sl hT.len hes hval
  have c0 : (w.alloc (.cells #[.int .i64 s0, .int .i64 s1, .slice A2 n2 k2, .slice A3 n3 k3] 33)).cell? ⟨w.heap.size, 0, none⟩ = some (.int .i64 s0) := (cell_of_row _ _ 0 _ _ (0, 0) k0).trans rfl
  have c1' : (w.alloc (.cells #[.int .i64 s0, .int .i64 s1, .slice A2 n2 k2, .slice A3 n3 k3] 33)).cell? ⟨w.heap.size, 1, none⟩ = some (.int .i64 s1) := (cell_of_row _ _ 1 _ _ (0, 0) k0).trans rfl
  have c2 : (w.alloc (.cells #[.int .i64 s0, .int .i64 s1, .slice A2 n2 k2, .slice A3 n3 k3] 33)).cell? ⟨w.heap.size, 2, none⟩ = some (.slice A2 n2 k2) := (cell_of_row _ _ 2 _ _ (0, 0) k0).trans rfl
  have c3 : (w.alloc (.cells #[.int .i64 s0, .int .i64 s1, .slice A2 n2 k2, .slice A3 n3 k3] 33)).cell? ⟨w.heap.size, 3, none⟩ = some (.slice A3 n3 k3) := (cell_of_row _ _ 3 _ _ (0, 0) k0).trans rfl
  have hcells : Hid (∀ W, Below (w.alloc (.cells #[.int .i64 s0, .int .i64 s1, .slice A2 n2 k2, .slice A3 n3 k3] 33)).heap.size (w.alloc (.cells #[.int .i64 s0, .int .i64 s1, .slice A2 n2 k2, .slice A3 n3 k3] 33)) W → W.cell? ⟨w.heap.size, 0, none⟩ = some (.int .i64 s0) ∧ W.cell? ⟨w.heap.size, 1, none⟩ = some (.int .i64 s1) ∧ W.cell? ⟨w.heap.size, 2, none⟩ = some (.slice A2 n2 k2) ∧ W.cell? ⟨w.heap.size, 3, none⟩ = some (.slice A3 n3 k3)) := fun W hW => by
    have k := (hW.block _ hbt).trans k0
    exact ⟨(cell_of_row _ _ 0 _ _ (0, 0) k).trans rfl, (cell_of_row _ _ 1 _ _ (0, 0) k).trans rfl, (cell_of_row _ _ 2 _ _ (0, 0) k).trans rfl, (cell_of_row _ _ 3 _ _ (0, 0) k).trans rfl⟩
  have hzs := hb0.size
  replace hb0 := hide hb0
  clear k0 h t2 t3 ht hT he hval hes
  cases hv : visB tr with
  | false =>
    rw [hv] at q2
    replace q2 := hide q2
    have hv' := hide hv
    clear hv q3
    go_enter Tryz.func105, Tryz.ntmps105
    go_wp2_with (first | (go_at_call 114; (with_reducible refine q1.out.mono ?_); rintro e w5 ⟨rfl, hb5⟩; have q4 := hide (q2.out w5 hb5); replace hb5 := hide hb5) | (go_at_call 78; (with_reducible refine q4.out.mono ?_); rintro e w6 ⟨rfl, hb6⟩; replace hb6 := hide hb6))
    go_ret2
    exact ⟨(hb0.out.trans (hb5.out.mono hzs)).trans (hb6.out.mono (Nat.le_trans hzs hb5.out.size)), .inl ⟨hv'.out, rfl⟩⟩
  | true =>
    rw [hv] at q2
    replace q2 := hide q2
    have hv' := hide hv
    clear hv
    go_enter Tryz.func105, Tryz.ntmps105
    go_upto_region 6 with (first | (go_at_call 114; (with_reducible refine q1.out.mono ?_); rintro e w5 ⟨rfl, hb5⟩; have q4 := hide (q2.out w5 hb5); replace hb5 := hide hb5) | (go_at_call 78; (with_reducible refine q4.out.mono ?_); rintro e w6 ⟨rfl, hb6⟩; have hb7 := hb5.out.trans (hb6.mono hb5.out.size); obtain ⟨d0, d1, d2, d3⟩ := hcells.out w6 hb7; have q5 := hide (q3.out w6 hb7); replace hb7 := hide hb7; clear hb6) | (go_at_call 142; (with_reducible refine q5.out.mono ?_); rintro e w8 ⟨A, n, c, R, rfl, hs8, hm8, hn8, hb8⟩; have hl8 := hs8.len; replace hs8 := hide hs8; replace hm8 := hide hm8; replace hb8 := hide hb8))
    have hbw := hide ((hb0.out.trans (hb7.out.mono hzs)).trans (hb8.out.mono (Nat.le_trans hzs hb7.out.size)))
    by_cases h0 : n = 0
    · have hno : Hid (¬ ∃ v, AftC et lt (· = s1) tr v) := fun ⟨v, hv⟩ => by
        have := (hm8.out v).2 hv
        rw [List.eq_nil_of_length_eq_zero (by omega : R.length = 0)] at this
        cases this
      subst h0
      go_wp2_with fail
      go_ret2
      exact ⟨hbw.out, .inr (.inl ⟨hv'.out, hno.out, rfl⟩)⟩
    · have hyes : Hid (∃ v, AftC et lt (· = s1) tr v) := by
        cases R with
        | nil => simp at hl8; omega
        | cons a t => exact ⟨a, (hm8.out a).1 (List.mem_cons_self ..)⟩
      have hsR := hide (hs8.out.more (lo' := w.heap.size) (Nat.le_trans hzs hb7.out.size) (Nat.le_refl _))
      have h0I : ((n : Int) == 0) = false := by rw [beq_eq_false_iff_ne]; omega
      clear hl8
      go_wp2_with fail
      go_ret2
      exact ⟨hbw.out, .inr (.inr ⟨hv'.out, hyes.out, A, n, c, R, rfl, hsR.out, hn8, hm8.out⟩)⟩

theorem vaF_bad {d s : DL} {tr : List ByteArray} (h : obsC d s ≠ 0) : vaF d s tr = (0, obsC d s) := by
  unfold obsC at h ⊢
  unfold vaF
  by_cases h1 : ltsV d = true ∧ ltsV s = true
  · rw [if_pos h1] at h ⊢
    rw [if_pos h1]
    by_cases h2 : detV s = true
    · rw [if_pos h2] at h; exact absurd rfl h
    · rw [if_neg h2, if_neg h2]
  · rw [if_neg h1, if_neg h1]
theorem obsC_ok {d s : DL} (h : obsC d s = 0) : ltsV d = true ∧ ltsV s = true ∧ detV s = true := by
  unfold obsC at h
  by_cases h1 : ltsV d = true ∧ ltsV s = true
  · rw [if_pos h1] at h
    by_cases h2 : detV s = true
    · exact ⟨h1.1, h1.2, h2⟩
    · rw [if_neg h2] at h; omega
  · rw [if_neg h1] at h; omega

set_option maxRecDepth 100000 in
set_option maxHeartbeats 3200000 in
theorem implVerdictAfter_u {v u t : Value} {d : DL} {s : DL} {tr : List ByteArray} {w : World} {lo hi lo' hi' lo2 hi2 : Nat} (he : Env w) (h : FreshL w lo hi v d) (hh : hi ≤ w.heap.size) (g : FreshL w lo' hi' u s) (gh : hi' ≤ w.heap.size) (r : FreshSS w lo2 hi2 t tr) (rh : hi2 ≤ w.heap.size) :
    Calls Tryz.prog 53 #[v, u, t] w fun e w' => e = .returned (.tuple #[.int .i64 (vaF d s tr).1, .int .i64 (vaF d s tr).2]) ∧ Below w.heap.size w w' := by
  obtain ⟨⟨⟨s0, s1, v2, v3⟩, rfl, hL⟩, ht⟩ := h
  obtain ⟨⟨⟨r0, r1, u2, u3⟩, rfl, gL⟩, gt⟩ := g
  obtain ⟨A, n, c, rfl, hT⟩ := FreshS.open_ r.1 r.2
  obtain ⟨st, ini, lt, et⟩ := d
  obtain ⟨st', ini', lp, ep⟩ := s
  have e0 := hL.1
  have e1 := hL.2.1
  have f0 := gL.1
  have f1 := gL.2.1
  dsimp only at *
  subst e0 e1 f0 f1
  obtain ⟨A2, n2, k2, rfl, hn2, hs2, t2⟩ := hL.2.2.1
  obtain ⟨A3, n3, k3, rfl, hn3, t3⟩ := hL.2.2.2
  obtain ⟨B2, m2, j2, rfl, hm2, hs3, u2⟩ := gL.2.2.1
  obtain ⟨B3, m3, j3, rfl, hm3, u3⟩ := gL.2.2.2
  have hes : n3 ≤ 1048576 := by rw [← t3.len]; exact Nat.le_trans (totL_edg (s0, s1, lt, et)) ht
  have hfs : m3 ≤ 1048576 := by rw [← u3.len]; exact Nat.le_trans (totL_edg (r0, r1, lp, ep)) gt
  have hz1 : (w.alloc (.cells #[.int .i64 s0, .int .i64 s1, .slice A2 n2 k2, .slice A3 n3 k3] 33)).heap.size = w.heap.size + 1 := World.size_alloc _ _
  have hb0 : Below w.heap.size w ((w.alloc (.cells #[.int .i64 s0, .int .i64 s1, .slice A2 n2 k2, .slice A3 n3 k3] 33)).alloc (.cells #[.int .i64 r0, .int .i64 r1, .slice B2 m2 j2, .slice B3 m3 j3] 33)) := ((Below.refl _ _).alloc (Nat.le_refl _) _).alloc (by omega) _
  have k1 := heap_alloc_new (w.alloc (.cells #[.int .i64 s0, .int .i64 s1, .slice A2 n2 k2, .slice A3 n3 k3] 33)) (.cells #[.int .i64 r0, .int .i64 r1, .slice B2 m2 j2, .slice B3 m3 j3] 33)
  rw [hz1] at k1
  have k0 := (Below.heap_alloc (w.alloc (.cells #[.int .i64 s0, .int .i64 s1, .slice A2 n2 k2, .slice A3 n3 k3] 33)) (.cells #[.int .i64 r0, .int .i64 r1, .slice B2 m2 j2, .slice B3 m3 j3] 33) w.heap.size (by omega)).trans (heap_alloc_new w (.cells #[.int .i64 s0, .int .i64 s1, .slice A2 n2 k2, .slice A3 n3 k3] 33))
  have hbt : w.heap.size + 1 < ((w.alloc (.cells #[.int .i64 s0, .int .i64 s1, .slice A2 n2 k2, .slice A3 n3 k3] 33)).alloc (.cells #[.int .i64 r0, .int .i64 r1, .slice B2 m2 j2, .slice B3 m3 j3] 33)).heap.size := by rw [World.size_alloc, hz1]; omega
  have q1 := obsCode_calls s0 s1 _ _ r0 r1 _ _ (s0, s1, lt, et) (r0, r1, lp, ep) _ lo hi lo' hi' (hL.below hb0 (.inr (Nat.le_refl _))) (gL.below hb0 (.inr (Nat.le_refl _))) ht gt (he.below hb0 (Nat.le_refl _))
  have hcells : Hid (∀ W, Below ((w.alloc (.cells #[.int .i64 s0, .int .i64 s1, .slice A2 n2 k2, .slice A3 n3 k3] 33)).alloc (.cells #[.int .i64 r0, .int .i64 r1, .slice B2 m2 j2, .slice B3 m3 j3] 33)).heap.size ((w.alloc (.cells #[.int .i64 s0, .int .i64 s1, .slice A2 n2 k2, .slice A3 n3 k3] 33)).alloc (.cells #[.int .i64 r0, .int .i64 r1, .slice B2 m2 j2, .slice B3 m3 j3] 33)) W → (W.cell? ⟨w.heap.size, 0, none⟩ = some (.int .i64 s0) ∧ W.cell? ⟨w.heap.size, 1, none⟩ = some (.int .i64 s1) ∧ W.cell? ⟨w.heap.size, 2, none⟩ = some (.slice A2 n2 k2) ∧ W.cell? ⟨w.heap.size, 3, none⟩ = some (.slice A3 n3 k3)) ∧
      W.cell? ⟨w.heap.size + 1, 0, none⟩ = some (.int .i64 r0) ∧ W.cell? ⟨w.heap.size + 1, 1, none⟩ = some (.int .i64 r1) ∧ W.cell? ⟨w.heap.size + 1, 2, none⟩ = some (.slice B2 m2 j2) ∧ W.cell? ⟨w.heap.size + 1, 3, none⟩ = some (.slice B3 m3 j3)) := fun W hW => by
    have k := (hW.block _ hbt).trans k1
    have k' := (hW.block _ (by omega)).trans k0
    exact ⟨⟨(cell_of_row _ _ 0 _ _ (0, 0) k').trans rfl, (cell_of_row _ _ 1 _ _ (0, 0) k').trans rfl, (cell_of_row _ _ 2 _ _ (0, 0) k').trans rfl, (cell_of_row _ _ 3 _ _ (0, 0) k').trans rfl⟩, (cell_of_row _ _ 0 _ _ (0, 0) k).trans rfl, (cell_of_row _ _ 1 _ _ (0, 0) k).trans rfl, (cell_of_row _ _ 2 _ _ (0, 0) k).trans rfl, (cell_of_row _ _ 3 _ _ (0, 0) k).trans rfl⟩
  obtain ⟨⟨c0, c1, c2, c3⟩, c4, c5, c6, c7⟩ := hcells.out _ (Below.refl _ _)
  have hzs := hb0.size
  by_cases hco : obsC (s0, s1, lt, et) (r0, r1, lp, ep) = 0
  case neg =>
    have hv := hide (vaF_bad (tr := tr) hco)
    generalize obsC (s0, s1, lt, et) (r0, r1, lp, ep) = oc at *
    replace q1 := hide q1
    replace hb0 := hide hb0
    clear hL gL t2 t3 u2 u3 k0 k1 he r hT
    go_enter Tryz.func53, Tryz.ntmps53
    go_wp2_with (first | (go_at_call 104; (with_reducible refine q1.out.mono ?_); rintro e w5 ⟨rfl, hb5⟩; replace hb5 := hide hb5))
    go_ret2
    exact ⟨by rw [hv.out]; rfl, hb0.out.trans (hb5.out.mono hzs)⟩
  obtain ⟨ht', hp', hdet⟩ := obsC_ok hco
  rw [hco] at q1
  have q2 := hide fun (W : World) (hW : Below ((w.alloc (.cells #[.int .i64 s0, .int .i64 s1, .slice A2 n2 k2, .slice A3 n3 k3] 33)).alloc (.cells #[.int .i64 r0, .int .i64 r1, .slice B2 m2 j2, .slice B3 m3 j3] 33)).heap.size ((w.alloc (.cells #[.int .i64 s0, .int .i64 s1, .slice A2 n2 k2, .slice A3 n3 k3] 33)).alloc (.cells #[.int .i64 r0, .int .i64 r1, .slice B2 m2 j2, .slice B3 m3 j3] 33)) W) =>
    aftTrace_calls s0 s1 A2 n2 k2 A3 n3 k3 A n c lt et tr W lo hi lo2 hi2 ((hL.below hb0 (.inr (Nat.le_refl _))).below hW (.inr (Nat.le_refl _))) ((t2.below hb0 (.inr (Nat.le_refl _))).below hW (.inr (Nat.le_refl _))) ((t3.below hb0 (.inr (Nat.le_refl _))).below hW (.inr (Nat.le_refl _))) ht ((hT.below hb0 (.inr (Nat.le_refl _))).below hW (.inr (Nat.le_refl _))) ((he.below hb0 (Nat.le_refl _)).below hW (Nat.le_refl _)) ht'
  have q3 := hide fun (lab : ByteArray) (y : Int) (W : World) (hW : Below ((w.alloc (.cells #[.int .i64 s0, .int .i64 s1, .slice A2 n2 k2, .slice A3 n3 k3] 33)).alloc (.cells #[.int .i64 r0, .int .i64 r1, .slice B2 m2 j2, .slice B3 m3 j3] 33)).heap.size ((w.alloc (.cells #[.int .i64 s0, .int .i64 s1, .slice A2 n2 k2, .slice A3 n3 k3] 33)).alloc (.cells #[.int .i64 r0, .int .i64 r1, .slice B2 m2 j2, .slice B3 m3 j3] 33)) W) =>
    step_calls r0 r1 B2 m2 j2 B3 m3 j3 y lab lp ep W lo' hi' ((u2.below hb0 (.inr (Nat.le_refl _))).below hW (.inr (Nat.le_refl _))) ((u3.below hb0 (.inr (Nat.le_refl _))).below hW (.inr (Nat.le_refl _))) hfs hdet
  have hbP := lts_boundsA ht'
  have hbS := lts_boundsA hp'
  have hD : Hid (ObsD w w.heap.size s0 s1 A2 n2 k2 A3 n3 k3 r0 r1 B2 m2 j2 B3 m3 j3 lt et lp ep) := ⟨t2.more (Nat.zero_le _) hh, t3.more (Nat.zero_le _) hh, u2.more (Nat.zero_le _) gh, u3.more (Nat.zero_le _) gh, hes, hfs, ht', hdet⟩
  have q4 := hide fun (W : World) (hW : Below w.heap.size w W) => judge_calls s0 s1 A2 n2 k2 A3 n3 k3 r0 r1 B2 m2 j2 B3 m3 j3 lt et lp ep s0.toNat r0.toNat w.heap.size W (hD.out.below hW (Nat.le_refl _)) hW.size (by omega) (by omega) (by omega) (by omega) (by omega) (by omega)
  have hval : Hid (vaF (s0, s1, lt, et) (r0, r1, lp, ep) tr = (open Classical in if visB tr = true then (if ∃ v, AftC et lt (· = s1) tr v then (vdV (canL s0.toNat r0.toNat et lt ep lp) (notS s0.toNat r0.toNat et lt ep lp) (AftC et lt (· = s1) tr) (goT ep lp tr r1), 0) else (0, 3)) else (0, 2))) := by
    show _ = _
    unfold vaF
    rw [if_pos ⟨ht', hp'⟩, if_pos hdet]
  have hin := hide (aft_in ht' (by omega : 0 ≤ s1 ∧ s1 < s0) tr)
  have hgo : Hid (∀ k, goT ep lp (tr.take k) r1 < r0) := fun k => by
    have key : ∀ (tr : List ByteArray) (y : Int), y < r0 → goT ep lp tr y < r0 := by
      intro tr
      induction tr with
      | nil => exact fun y hy => hy
      | cons a t ih => exact fun y hy => ih _ (goE_lt hp' (by omega) _ _)
    exact key _ _ (by omega)
  have hlen := hide hT.sl.len
  have hTs := hide (hT.sl.below hb0 (.inr (Nat.le_refl _)))
  have hnT := hT.len
  replace q1 := hide q1
  replace hb0 := hide hb0
  clear hL gL t2 t3 u2 u3 k0 k1 he r hT hco ht' hp' hdet hbP hbS hn2 hn3 hm2 hm3 hs2 hs3 hD
  go_enter Tryz.func53, Tryz.ntmps53
  go_upto_region 1 with fail
  generalize ((w.alloc (.cells #[.int .i64 s0, .int .i64 s1, .slice A2 n2 k2, .slice A3 n3 k3] 33)).alloc (.cells #[.int .i64 r0, .int .i64 r1, .slice B2 m2 j2, .slice B3 m3 j3] 33)) = W0 at *
  have c0' := hide c0
  go_upto_region 5 with (first | (go_at_call 104; (with_reducible refine q1.out.mono ?_); rintro e w5 ⟨rfl, hb5⟩; obtain ⟨⟨d0, d1, d2, d3⟩, d4, d5, d6, d7⟩ := hcells.out w5 hb5; have qa := hide (q2.out w5 hb5); replace hb5 := hide hb5) | (go_at_call 105; (with_reducible refine qa.out.mono ?_); rintro e w6 ⟨hb6, hcase⟩; have hb7 := hb5.out.trans (hb6.mono hb5.out.size); obtain ⟨⟨g0, g1, g2, g3⟩, g4, g5, g6, g7⟩ := hcells.out w6 hb7; replace hb7 := hide hb7; clear hb6; rcases hcase with ⟨hv, rfl⟩ | ⟨hv, hno, rfl⟩ | ⟨hv, hyes, AR, nR, cR, R, rfl, hsR, hnR, hmR⟩))
  · have hr : Hid (vaF (s0, s1, lt, et) (r0, r1, lp, ep) tr = (0, 2)) := by
      show _ = _
      rw [hval.out, if_neg (by rw [hv]; decide)]
    clear hval hv
    go_wp2_with fail
    go_ret2
    exact ⟨by rw [hr.out]; rfl, hb0.out.trans (hb7.out.mono hzs)⟩
  · have hr : Hid (vaF (s0, s1, lt, et) (r0, r1, lp, ep) tr = (0, 3)) := by
      show _ = _
      rw [hval.out, if_pos hv, if_neg hno]
    clear hval hv hno
    go_wp2_with fail
    go_ret2
    exact ⟨by rw [hr.out]; rfl, hb0.out.trans (hb7.out.mono hzs)⟩
  · have hr : Hid (vaF (s0, s1, lt, et) (r0, r1, lp, ep) tr = (vdV (canL s0.toNat r0.toNat et lt ep lp) (notS s0.toNat r0.toNat et lt ep lp) (AftC et lt (· = s1) tr) (goT ep lp tr r1), 0)) := by
      show _ = _
      rw [hval.out, if_pos hv, if_pos hyes]
    replace hsR := hide hsR
    replace hmR := hide hmR
    clear hval hv hyes q1 q2 qa
    go_upto_region 9 with fail
    clear g0 g1 g2 g3 g4 g5 g6 g7 d0 d1 d2 d3 d4 d5 d6 d7
    go_loopg [11, 33] n (fun G y i wr => ∃ k : Nat, k ≤ n ∧ y = .int .i64 (goT ep lp (tr.take k) r1) ∧ i = .int .i64 (k : Nat) ∧ Below w6.heap.size w6 wr ∧ Hid (n - k ≤ G))
    case atStart => exact ⟨0, Nat.zero_le _, rfl, rfl, Below.refl _ _, by show _ ≤ _; omega⟩
    case round =>
      obtain ⟨k, hk, rfl, rfl, hb, hG⟩ := hrel
      have hb8 := hb7.out.trans (hb.mono hb7.out.size)
      obtain ⟨⟨g0, g1, g2, g3⟩, g4, g5, g6, g7⟩ := hcells.out wr hb8
      by_cases hlt : k < n
      · obtain ⟨G2, rfl⟩ : ∃ G2, gk = G2 + 1 := ⟨gk - 1, by have := hG.out; omega⟩
        have hG2 : Hid (n - (k + 1) ≤ G2) := by have := hG.out; show _ ≤ _; omega
        obtain ⟨bx, ox, lab, rfl, -, -, gx, hx, px, -⟩ := SlS.get (hTs.out.below hb8 (.inr (Nat.le_refl _))) hlt
        have hI0 : (0 : Int) ≤ (k : Int) := by omega
        have hI1 : (k : Int) < (n : Int) := by omega
        have hsu := hide (goT_succ (ep := ep) (lp := lp) (y := r1) hx)
        have qs := hide (q3.out lab (goT ep lp (tr.take k) r1) wr hb8)
        replace hb8 := hide hb8
        clear hx
        generalize goT ep lp (tr.take k) r1 = yk at *
        go_wp2_with (first | (go_at_call 90; (with_reducible refine qs.out.mono ?_); rintro e w8 ⟨rfl, hb9⟩))
        have hb10 := hb.trans (hb9.mono hb.size)
        clear hb9
        go_roundg G2
        case measure => omega
        case rel => exact ⟨k + 1, by omega, by rw [hsu.out], by go_num, hb10, hG2⟩
      · have hkn : k = n := by omega
        subst hkn
        have hall : tr.take k = tr := List.take_of_length_le (by rw [hlen.out]; exact Nat.le_refl _)
        have hy := hide (hgo.out k)
        rw [hall] at hy ⊢
        have hbw8 := hb0.out.trans (hb8.mono hzs)
        have qj := hide (q4.out wr hbw8)
        have hsR8 := hide (hsR.out.below hb (.inr (Nat.le_refl _)))
        have hinR : Hid (∀ x, x ∈ R → 0 ≤ x ∧ x < (s0.toNat : Int)) := fun x hx => by have := hin.out x ((hmR.out x).1 hx); omega
        generalize hyy : goT ep lp tr r1 = y at *
        have qv := hide fun (bL bS : Nat) (ML MS : List (List Bool)) (W : World) (hW : Below wr.heap.size wr W) (hJ : JudAt W wr.heap.size bL bS s0.toNat r0.toNat (canL s0.toNat r0.toNat et lt ep lp) (notS s0.toNat r0.toNat et lt ep lp) ML MS) =>
          verdict_calls wr.heap.size bL bS s0.toNat r0.toNat _ _ ML MS AR nR cR R y W _ _ hJ (hsR8.out.below hW (.inr (Nat.le_refl _))) (by omega) hinR.out (by have := hy.out; omega)
        have hbw8' := hide hbw8
        have hbs := hbw8.size
        clear hbw8 hb8 hb q3 q4 hall hyy hTs
        go_wp2_with (first | (go_at_call 106; (with_reducible refine qj.out.mono ?_); rintro e wj ⟨bL, bS, ML, MS, rfl, hJ, hbj⟩; have qw := hide (qv.out bL bS ML MS wj hbj hJ); have hvd := hide (vd_eq hJ.ms.sh hJ.cl hJ.cs hmR.out hinR.out (by have := hy.out; omega : y < (r0.toNat : Int))); replace hbj := hide hbj; clear hJ) | (go_at_call 107; (with_reducible refine qw.out.mono ?_); rintro e wk ⟨rfl, hbk⟩; replace hbk := hide hbk))
        go_ret2
        exact ⟨by rw [hr.out, ← hvd.out]; rfl, (hbw8'.out.trans (hbj.out.mono hbs)).trans (hbk.out.mono (Nat.le_trans hbs hbj.out.size))⟩

end Go.Proofs.YtiaclddgllkgpaaGreatDoor
