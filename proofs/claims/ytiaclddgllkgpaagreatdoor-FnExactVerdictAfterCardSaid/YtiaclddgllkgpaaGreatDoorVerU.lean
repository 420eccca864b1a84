/-
  VerdictAfter, by the program. Conditions: sizes.
-/
import Derived.Test.YtiaclddgllkgpaaGreatDoorObsV
import Derived.Test.YtiaclddgllkgpaaGreatDoorRunU
import Derived.Test.YtiaclddgllkgpaaGreatDoorKindLu
namespace Go.Proofs.YtiaclddgllkgpaaGreatDoor
open Go.ChangeShapes Go.WideShapes Go.ChangeAt Go.RowKit Go.Sort
set_option linter.unusedVariables false
set_option linter.unusedSimpArgs false

def obsC (d s : DL) : Int := if ltsV d = true ∧ ltsV s = true then (if detV s = true then 0 else 6) else 1

theorem inM_true {M : List (List Bool)} {y v : Int} (h0 : 0 ≤ v) (h1 : 0 ≤ y) : inM M y v = true ↔ ChM false M v y := by
  unfold inM ChM
  constructor
  · intro h
    refine ⟨h0, h1, ?_⟩
    cases hg : getM M v.toNat y.toNat with
    | none => rw [hg] at h; cases h
    | some c => rw [hg] at h; simp only [Option.getD_some] at h; rw [h]; rfl
  · rintro ⟨-, -, h⟩
    rw [h]; rfl
theorem inM_not {n p : Nat} {M : List (List Bool)} (hs : ShM n p M) {y v : Int} (h0 : 0 ≤ v ∧ v < (n : Int)) (h1 : 0 ≤ y ∧ y < (p : Int)) : inM M y v = true ↔ ¬ ChM true M v y := by
  obtain ⟨r, c, -, -, -, hg⟩ := hs.get (x := v.toNat) (y := y.toNat) (by omega) (by omega)
  unfold inM ChM
  rw [hg, Option.getD_some]
  cases c with
  | true => simp
  | false => simp [h0.1, h1.1]
theorem vd_eq {n p : Nat} {L N : Rel2} {ML MS : List (List Bool)} {P : Int → Prop} {R : List Int} {y : Int} (hs : ShM n p MS) (cl : ∀ x y, ChM false ML x y ↔ L x y) (cs : ∀ x y, ChM true MS x y ↔ N x y) (hR : ∀ v, v ∈ R ↔ P v) (hin : ∀ v, v ∈ R → 0 ≤ v ∧ v < (n : Int)) (hy : y < (p : Int)) :
    vdB y R (inM ML y) (inM MS y) = vdV L N P y := by
  unfold vdB vdV
  by_cases h0 : y < 0
  · rw [if_pos h0, if_pos h0]
  rw [if_neg h0, if_neg h0]
  have e1 : R.any (inM ML y) = false ↔ ¬ ∃ v, P v ∧ L v y := by
    rw [List.any_eq_false]
    constructor
    · rintro h ⟨v, h1, h2⟩
      exact h v ((hR v).2 h1) ((inM_true (hin v ((hR v).2 h1)).1 (by omega)).2 ((cl v y).2 h2))
    · intro h v hv h1
      exact h ⟨v, (hR v).1 hv, (cl v y).1 ((inM_true (hin v hv).1 (by omega)).1 h1)⟩
  have e2 : R.any (inM MS y) = false ↔ ¬ ∃ v, P v ∧ ¬ N v y := by
    rw [List.any_eq_false]
    constructor
    · rintro h ⟨v, h1, h2⟩
      exact h v ((hR v).2 h1) ((inM_not hs (hin v ((hR v).2 h1)) (by omega)).2 fun h3 => h2 ((cs v y).1 h3))
    · intro h v hv h1
      exact h ⟨v, (hR v).1 hv, fun h3 => (inM_not hs (hin v hv) (by omega)).1 h1 ((cs v y).2 h3)⟩
  by_cases h1 : R.any (inM ML y) = false
  · rw [if_pos h1, if_pos (e1.1 h1)]
  rw [if_neg h1, if_neg (fun h => h1 (e1.2 h))]
  by_cases h2 : R.any (inM MS y) = false
  · rw [if_pos h2, if_pos (e2.1 h2)]
  rw [if_neg h2, if_neg (fun h => h2 (e2.2 h))]
theorem tau_in {st ini : Int} {es : List Ed} {ls : List ByteArray} (h : ltsV (st, ini, ls, es) = true) {P : Int → Prop} (hP : ∀ v, P v → 0 ≤ v ∧ v < st) {v : Int} (hv : TauC es ls P v) : 0 ≤ v ∧ v < st := by
  cases hv with
  | base h1 => exact hP _ h1
  | @step e _ he _ =>
    obtain ⟨k, hk⟩ := List.getElem?_of_mem he
    obtain ⟨f, lb, tg⟩ := e
    have := (edge_of h hk).2.1
    dsimp only
    omega
theorem aft_in {st ini : Int} {es : List Ed} {ls : List ByteArray} (h : ltsV (st, ini, ls, es) = true) (hi : 0 ≤ ini ∧ ini < st) (tr : List ByteArray) : ∀ v, AftC es ls (· = ini) tr v → 0 ≤ v ∧ v < st := by
  have key : ∀ (tr : List ByteArray) (Q : Int → Prop), (∀ v, Q v → 0 ≤ v ∧ v < st) → ∀ v, tr.foldl (VisC es ls) Q v → 0 ≤ v ∧ v < st := by
    intro tr
    induction tr with
    | nil => exact fun Q hQ v hv => hQ v hv
    | cons a t ih =>
      intro Q hQ v hv
      refine ih (VisC es ls Q a) (fun u hu => tau_in h (fun x hx => ?_) hu) v hv
      obtain ⟨e, he, -, -, rfl⟩ := hx
      obtain ⟨k, hk⟩ := List.getElem?_of_mem he
      obtain ⟨f, lb, tg⟩ := e
      have := (edge_of h hk).2.1
      dsimp only
      omega
  exact fun v hv => key tr _ (fun u hu => tau_in h (fun x hx => by subst hx; exact hi) hu) v hv
theorem goT_succ {ep : List Ed} {lp : List ByteArray} {tr : List ByteArray} {k : Nat} {lab : ByteArray} {y : Int} (h : tr[k]? = some lab) : goT ep lp (tr.take (k + 1)) y = goE ep lp lab (goT ep lp (tr.take k) y) := by
  unfold goT
  rw [List.take_add_one, h, List.foldl_append]
  rfl

set_option maxRecDepth 100000 in
set_option maxHeartbeats 1600000 in
theorem obsCode_calls (s0 s1 : Int) (v2 v3 : Value) (r0 r1 : Int) (u2 u3 : Value) (d s : DL) (w : World) (lo hi lo' hi' : Nat) (h : ReadL w lo hi (s0, s1, v2, v3) d) (g : ReadL w lo' hi' (r0, r1, u2, u3) s) (ht : totL d ≤ 1048576) (gt : totL s ≤ 1048576) (he : Env w) :
    Calls Tryz.prog 104 #[.agg #[.int .i64 s0, .int .i64 s1, v2, v3], .agg #[.int .i64 r0, .int .i64 r1, u2, u3]] w fun e w' => e = .returned (.int .i64 (obsC d s)) ∧ Below w.heap.size w w' := by
  obtain ⟨A2, n2, k2, e2⟩ := h.2.2.1.shape
  obtain ⟨A3, n3, k3, e3⟩ := h.2.2.2.shape
  obtain ⟨B2, m2, j2, f2⟩ := g.2.2.1.shape
  obtain ⟨B3, m3, j3, f3⟩ := g.2.2.2.shape
  dsimp only at e2 e3 f2 f3
  subst e2 e3 f2 f3
  have hz1 : (w.alloc (.cells #[.int .i64 s0, .int .i64 s1, .slice A2 n2 k2, .slice A3 n3 k3] 33)).heap.size = w.heap.size + 1 := World.size_alloc _ _
  have hb0 : Below w.heap.size w ((w.alloc (.cells #[.int .i64 s0, .int .i64 s1, .slice A2 n2 k2, .slice A3 n3 k3] 33)).alloc (.cells #[.int .i64 r0, .int .i64 r1, .slice B2 m2 j2, .slice B3 m3 j3] 33)) := ((Below.refl _ _).alloc (Nat.le_refl _) _).alloc (by omega) _
  have k1 := heap_alloc_new (w.alloc (.cells #[.int .i64 s0, .int .i64 s1, .slice A2 n2 k2, .slice A3 n3 k3] 33)) (.cells #[.int .i64 r0, .int .i64 r1, .slice B2 m2 j2, .slice B3 m3 j3] 33)
  rw [hz1] at k1
  have k0 := (Below.heap_alloc (w.alloc (.cells #[.int .i64 s0, .int .i64 s1, .slice A2 n2 k2, .slice A3 n3 k3] 33)) (.cells #[.int .i64 r0, .int .i64 r1, .slice B2 m2 j2, .slice B3 m3 j3] 33) w.heap.size (by omega)).trans (heap_alloc_new w (.cells #[.int .i64 s0, .int .i64 s1, .slice A2 n2 k2, .slice A3 n3 k3] 33))
  have hbt : w.heap.size + 1 < ((w.alloc (.cells #[.int .i64 s0, .int .i64 s1, .slice A2 n2 k2, .slice A3 n3 k3] 33)).alloc (.cells #[.int .i64 r0, .int .i64 r1, .slice B2 m2 j2, .slice B3 m3 j3] 33)).heap.size := by rw [World.size_alloc, hz1]; omega
  have q1 := validLts_calls _ d _ lo hi (h.below hb0 (.inr (Nat.le_refl _))) ht (he.below hb0 (Nat.le_refl _))
  have q2 := fun (W : World) (hW : Below ((w.alloc (.cells #[.int .i64 s0, .int .i64 s1, .slice A2 n2 k2, .slice A3 n3 k3] 33)).alloc (.cells #[.int .i64 r0, .int .i64 r1, .slice B2 m2 j2, .slice B3 m3 j3] 33)).heap.size ((w.alloc (.cells #[.int .i64 s0, .int .i64 s1, .slice A2 n2 k2, .slice A3 n3 k3] 33)).alloc (.cells #[.int .i64 r0, .int .i64 r1, .slice B2 m2 j2, .slice B3 m3 j3] 33)) W) => validLts_calls _ s W lo' hi' ((g.below hb0 (.inr (Nat.le_refl _))).below hW (.inr (Nat.le_refl _))) gt ((he.below hb0 (Nat.le_refl _)).below hW (Nat.le_refl _))
  have q3 := hide fun (W : World) (hW : Below ((w.alloc (.cells #[.int .i64 s0, .int .i64 s1, .slice A2 n2 k2, .slice A3 n3 k3] 33)).alloc (.cells #[.int .i64 r0, .int .i64 r1, .slice B2 m2 j2, .slice B3 m3 j3] 33)).heap.size ((w.alloc (.cells #[.int .i64 s0, .int .i64 s1, .slice A2 n2 k2, .slice A3 n3 k3] 33)).alloc (.cells #[.int .i64 r0, .int .i64 r1, .slice B2 m2 j2, .slice B3 m3 j3] 33)) W) => isDet_calls _ s W lo' hi' ((g.below hb0 (.inr (Nat.le_refl _))).below hW (.inr (Nat.le_refl _))) gt ((he.below hb0 (Nat.le_refl _)).below hW (Nat.le_refl _))
  dsimp only at q1 q2 q3
  have c0 : ((w.alloc (.cells #[.int .i64 s0, .int .i64 s1, .slice A2 n2 k2, .slice A3 n3 k3] 33)).alloc (.cells #[.int .i64 r0, .int .i64 r1, .slice B2 m2 j2, .slice B3 m3 j3] 33)).cell? ⟨w.heap.size, 0, none⟩ = some (.int .i64 s0) := (cell_of_row _ _ 0 _ _ (0, 0) k0).trans rfl
  have c1 : ((w.alloc (.cells #[.int .i64 s0, .int .i64 s1, .slice A2 n2 k2, .slice A3 n3 k3] 33)).alloc (.cells #[.int .i64 r0, .int .i64 r1, .slice B2 m2 j2, .slice B3 m3 j3] 33)).cell? ⟨w.heap.size, 1, none⟩ = some (.int .i64 s1) := (cell_of_row _ _ 1 _ _ (0, 0) k0).trans rfl
  have c2 : ((w.alloc (.cells #[.int .i64 s0, .int .i64 s1, .slice A2 n2 k2, .slice A3 n3 k3] 33)).alloc (.cells #[.int .i64 r0, .int .i64 r1, .slice B2 m2 j2, .slice B3 m3 j3] 33)).cell? ⟨w.heap.size, 2, none⟩ = some (.slice A2 n2 k2) := (cell_of_row _ _ 2 _ _ (0, 0) k0).trans rfl
  have c3 : ((w.alloc (.cells #[.int .i64 s0, .int .i64 s1, .slice A2 n2 k2, .slice A3 n3 k3] 33)).alloc (.cells #[.int .i64 r0, .int .i64 r1, .slice B2 m2 j2, .slice B3 m3 j3] 33)).cell? ⟨w.heap.size, 3, none⟩ = some (.slice A3 n3 k3) := (cell_of_row _ _ 3 _ _ (0, 0) k0).trans rfl
  have hzs := hb0.size
  have hob : Hid (obsC d s = if ltsV d = true ∧ ltsV s = true then (if detV s = true then 0 else 6) else 1) := rfl
  replace k1 := hide k1
  replace hb0 := hide hb0
  clear k0 h g he hz1
  have hcells : Hid (∀ W, Below ((w.alloc (.cells #[.int .i64 s0, .int .i64 s1, .slice A2 n2 k2, .slice A3 n3 k3] 33)).alloc (.cells #[.int .i64 r0, .int .i64 r1, .slice B2 m2 j2, .slice B3 m3 j3] 33)).heap.size ((w.alloc (.cells #[.int .i64 s0, .int .i64 s1, .slice A2 n2 k2, .slice A3 n3 k3] 33)).alloc (.cells #[.int .i64 r0, .int .i64 r1, .slice B2 m2 j2, .slice B3 m3 j3] 33)) W → W.cell? ⟨w.heap.size + 1, 0, none⟩ = some (.int .i64 r0) ∧ W.cell? ⟨w.heap.size + 1, 1, none⟩ = some (.int .i64 r1) ∧ W.cell? ⟨w.heap.size + 1, 2, none⟩ = some (.slice B2 m2 j2) ∧ W.cell? ⟨w.heap.size + 1, 3, none⟩ = some (.slice B3 m3 j3)) := fun W hW => by
    have k := (hW.block _ hbt).trans k1.out
    exact ⟨(cell_of_row _ _ 0 _ _ (0, 0) k).trans rfl, (cell_of_row _ _ 1 _ _ (0, 0) k).trans rfl, (cell_of_row _ _ 2 _ _ (0, 0) k).trans rfl, (cell_of_row _ _ 3 _ _ (0, 0) k).trans rfl⟩
  clear k1
  cases hd : ltsV d with
  | false =>
    rw [hd] at q1 hob
    replace q1 := hide q1
    replace hob : Hid (obsC d s = 1) := hob.out.trans (if_neg (by simp))
    clear hd q2
    go_enter Tryz.func104, Tryz.ntmps104
    go_wp2_with (first | (go_at_call 114; (with_reducible refine q1.out.mono ?_); rintro e w5 ⟨rfl, hb5⟩; replace hb5 := hide hb5))
    go_ret
    exact ⟨ret_i (by rw [hob.out]), hb0.out.trans (hb5.out.mono hzs)⟩
  | true =>
    rw [hd] at q1 hob
    replace q1 := hide q1
    clear hd
    cases hs : ltsV s with
    | false =>
      rw [hs] at q2 hob
      replace q2 := hide q2
      replace hob : Hid (obsC d s = 1) := hob.out.trans (if_neg (by simp))
      clear hs
      go_enter Tryz.func104, Tryz.ntmps104
      go_wp2_with (first | (go_at_call 114; (with_reducible refine q1.out.mono ?_); rintro e w5 ⟨rfl, hb5⟩; obtain ⟨d0, d1, d2, d3⟩ := hcells.out w5 hb5; have q4 := hide (q2.out w5 hb5); clear q1; replace hb5 := hide hb5) | (go_at_call 114; (with_reducible refine q4.out.mono ?_); rintro e w6 ⟨rfl, hb6⟩; replace hb6 := hide hb6))
      go_ret
      exact ⟨ret_i (by rw [hob.out]), (hb0.out.trans (hb5.out.mono hzs)).trans (hb6.out.mono (Nat.le_trans hzs hb5.out.size))⟩
    | true =>
      rw [hs] at q2 hob
      replace q2 := hide q2
      clear hs
      cases hp : detV s with
      | false =>
        rw [hp] at q3 hob
        replace q3 := hide q3.out
        replace hob : Hid (obsC d s = 6) := hob.out
        clear hp
        go_enter Tryz.func104, Tryz.ntmps104
        go_wp2_with (first | (go_at_call 114; (with_reducible refine q1.out.mono ?_); rintro e w5 ⟨rfl, hb5⟩; obtain ⟨d0, d1, d2, d3⟩ := hcells.out w5 hb5; have q4 := hide (q2.out w5 hb5); clear q1; replace hb5 := hide hb5) | (go_at_call 114; (with_reducible refine q4.out.mono ?_); rintro e w6 ⟨rfl, hb6⟩; have hb7 := hb5.out.trans (hb6.mono hb5.out.size); obtain ⟨e0, e1, e2, e3⟩ := hcells.out w6 hb7; have q5 := hide (q3.out w6 hb7); clear q4; replace hb7 := hide hb7; clear hb6) | (go_at_call 59; (with_reducible refine q5.out.mono ?_); rintro e w8 ⟨rfl, hb8⟩; replace hb8 := hide hb8))
        go_ret
        exact ⟨ret_i (by rw [hob.out]), (hb0.out.trans (hb7.out.mono hzs)).trans (hb8.out.mono (Nat.le_trans hzs hb7.out.size))⟩
      | true =>
        rw [hp] at q3 hob
        replace q3 := hide q3.out
        replace hob : Hid (obsC d s = 0) := hob.out
        clear hp
        go_enter Tryz.func104, Tryz.ntmps104
        go_wp2_with (first | (go_at_call 114; (with_reducible refine q1.out.mono ?_); rintro e w5 ⟨rfl, hb5⟩; obtain ⟨d0, d1, d2, d3⟩ := hcells.out w5 hb5; have q4 := hide (q2.out w5 hb5); clear q1; replace hb5 := hide hb5) | (go_at_call 114; (with_reducible refine q4.out.mono ?_); rintro e w6 ⟨rfl, hb6⟩; have hb7 := hb5.out.trans (hb6.mono hb5.out.size); obtain ⟨e0, e1, e2, e3⟩ := hcells.out w6 hb7; have q5 := hide (q3.out w6 hb7); clear q4; replace hb7 := hide hb7; clear hb6) | (go_at_call 59; (with_reducible refine q5.out.mono ?_); rintro e w8 ⟨rfl, hb8⟩; replace hb8 := hide hb8))
        go_ret
        exact ⟨ret_i (by rw [hob.out]), (hb0.out.trans (hb7.out.mono hzs)).trans (hb8.out.mono (Nat.le_trans hzs hb7.out.size))⟩

end Go.Proofs.YtiaclddgllkgpaaGreatDoor
