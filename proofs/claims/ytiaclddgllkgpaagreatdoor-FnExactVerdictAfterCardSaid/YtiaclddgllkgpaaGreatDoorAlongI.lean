/-
  Whether a deterministic system goes along with a label, by the program; the test of a plant beside one system; edges from a state. Conditions: sizes.
-/
import Derived.Test.YtiaclddgllkgpaaGreatDoorAlong
namespace Go.Proofs.YtiaclddgllkgpaaGreatDoor
open Go.ChangeShapes Go.WideShapes Go.ChangeAt Go.RowKit Go.Sort
set_option linter.unusedVariables false
set_option linter.unusedSimpArgs false

set_option maxRecDepth 100000 in
set_option maxHeartbeats 800000 in
theorem along_calls (s0 s1 : Int) (A2 : Option Addr) (n2 k2 : Nat) (A3 : Option Addr) (n3 k3 : Nat) (k : Int) (lab : ByteArray) (ls : List ByteArray) (es : List Ed) (w : World) (lo hi : Nat)
    (t2 : SlS w lo hi A2 n2 ls) (t3 : SlE w lo hi A3 n3 es) (hes : n3 ≤ 1048576) (hn2 : n2 ≤ 1048576) (hval : detV (s0, s1, ls, es) = true) :
    Calls Tryz.prog 91 #[.agg #[.int .i64 s0, .int .i64 s1, .slice A2 n2 k2, .slice A3 n3 k3], .int .i64 k, .string lab] w fun e w' => e = .returned (.tuple #[.int .i64 (aloTo (s0, s1, ls, es) k lab), .bool (aloOk (s0, s1, ls, es) k lab)]) ∧ Below w.heap.size w w' := by
  have hbW : Below w.heap.size w (w.alloc (.cells #[.int .i64 s0, .int .i64 s1, .slice A2 n2 k2, .slice A3 n3 k3] 33)) := (Below.refl _ _).alloc (Nat.le_refl _) _
  have q := hide (containsS_calls lab A2 n2 k2 ls _ lo hi (t2.below hbW (.inr (Nat.le_refl _))) hn2)
  have q2 := hide (step_calls s0 s1 A2 n2 k2 A3 n3 k3 k lab ls es _ lo hi (t2.below hbW (.inr (Nat.le_refl _))) (t3.below hbW (.inr (Nat.le_refl _))) hes hval)
  have hz := hbW.size
  replace hbW := hide hbW
  clear t2 t3 hval
  cases ha : anyL ls lab with
  | false =>
    have h1 : Hid (aloOk (s0, s1, ls, es) k lab = true) := by show _ = _; unfold aloOk; rw [if_neg (by dsimp only; rw [ha]; decide)]
    have h2 : Hid (aloTo (s0, s1, ls, es) k lab = k) := by show _ = _; unfold aloTo; rw [if_neg (by dsimp only; rw [ha]; decide)]
    unfold anyL at ha
    rw [ha] at q
    clear ha q2
    go_enter Tryz.func91, Tryz.ntmps91
    go_wp2_with fail
    refine q.out.mono ?_
    rintro e w1 ⟨rfl, rfl⟩
    go_wp2_with fail
    go_ret2
    exact ⟨by rw [h1.out, h2.out]; rfl, hbW.out⟩
  | true =>
    have h1 : Hid (aloOk (s0, s1, ls, es) k lab = decide (0 ≤ goE es ls lab k)) := by show _ = _; unfold aloOk; rw [if_pos ha]
    have h2 : Hid (aloTo (s0, s1, ls, es) k lab = goE es ls lab k) := by show _ = _; unfold aloTo; rw [if_pos ha]
    unfold anyL at ha
    rw [ha] at q
    clear ha
    go_enter Tryz.func91, Tryz.ntmps91
    go_wp2_with fail
    refine q.out.mono ?_
    rintro e w1 ⟨rfl, rfl⟩
    go_wp2_with fail
    refine q2.out.mono ?_
    rintro e w2 ⟨rfl, hb⟩
    have hbw := hide (hbW.out.trans (hb.mono hz))
    clear hb
    go_wp2_with fail
    go_ret2
    exact ⟨by rw [h1.out, h2.out]; rfl, hbw.out⟩

set_option maxRecDepth 100000 in
set_option maxHeartbeats 800000 in
theorem indexFuncL_calls (F : FuncId) (caps : Array Value) (g : Bool) (b c : Nat) (x0 x1 x2 x3 : Value) (w : World) (hk : w.heap[b]? = some (.cells #[x0, x1, x2, x3] 33 (0, 0)))
    (ho : x0.oneCell' = true ∧ x1.oneCell' = true ∧ x2.oneCell' = true ∧ x3.oneCell' = true)
    (hF : ∀ (v : Value) (W : World), Sem.run Tryz.prog (callFunc F (#[v] ++ caps)) W = .ok (.enter F (#[v] ++ caps)) W)
    (hcl : ∀ (W : World), Below w.heap.size w W → Calls Tryz.prog F (#[.agg #[x0, x1, x2, x3]] ++ caps) W (Says g W)) :
    Calls Tryz.prog 164 #[.slice (some ⟨b, 0, none⟩) 1 c, .func (.func F) #[] caps] w fun e w' => e = .returned (.int .i64 (if g = true then 0 else -1)) ∧ Below w.heap.size w w' := by
  have hlt : b < w.heap.size := (Array.getElem?_eq_some_iff.1 hk).1
  replace hcl := hide hcl
  replace hk := hide hk
  go_enter Tryz.func164, Tryz.ntmps164
  go_wp2
  go_loopw [8] (fun i wr => ∃ k : Nat, k ≤ 1 ∧ i = .int .i64 (k : Nat) ∧ Hid (k = 1 → g = false) ∧ Below w.heap.size w wr) (fun i _ => 1 - (intOf i).toNat)
  case atStart => exact ⟨0, Nat.zero_le _, rfl, (fun h => by omega), Below.refl _ _⟩
  case round =>
    obtain ⟨k, hk1, rfl, hg, hb⟩ := hrel
    by_cases hk0 : k = 0
    · subst hk0
      have kb := (hb.block _ hlt).trans hk.out
      have c0 : wr.cell? ⟨b, 0, none⟩ = some x0 := (cell_of_row _ _ 0 _ _ (0, 0) kb).trans rfl
      have c1 : wr.cell? ⟨b, 1, none⟩ = some x1 := (cell_of_row _ _ 1 _ _ (0, 0) kb).trans rfl
      have c2 : wr.cell? ⟨b, 2, none⟩ = some x2 := (cell_of_row _ _ 2 _ _ (0, 0) kb).trans rfl
      have c3 : wr.cell? ⟨b, 3, none⟩ = some x3 := (cell_of_row _ _ 3 _ _ (0, 0) kb).trans rfl
      have hc := hcl.out wr hb
      clear kb hg
      cases g with
      | true =>
        replace hc := hide hc
        clear hcl
        go_wp2_with fail
        refine hc.out.mono ?_
        rintro e w1 ⟨rfl, hb1⟩
        have hbw := hide (hb.trans (hb1.mono hb.size))
        clear hb1 c0 c1 c2 c3
        go_wp2_with fail
        go_ret
        exact ⟨rfl, hbw.out⟩
      | false =>
        replace hc := hide hc
        clear hcl
        go_wp2_with fail
        refine hc.out.mono ?_
        rintro e w1 ⟨rfl, hb1⟩
        have hbw := hide (hb.trans (hb1.mono hb.size))
        clear hb1 c0 c1 c2 c3
        go_wp2_with fail
        go_roundw
        case rel => exact ⟨1, Nat.le_refl _, by go_num, (fun _ => by first | rfl | trivial), hbw.out⟩
        case measure => simp [intOf]
    · have hk1' : k = 1 := by omega
      subst hk1'
      have hgf := hg.out rfl
      subst hgf
      replace hb := hide hb
      clear hcl
      go_wp2
      go_ret
      exact ⟨rfl, hb.out⟩

theorem containsFuncL_calls (F : FuncId) (caps : Array Value) (g : Bool) (b c : Nat) (x0 x1 x2 x3 : Value) (w : World) (hk : w.heap[b]? = some (.cells #[x0, x1, x2, x3] 33 (0, 0)))
    (ho : x0.oneCell' = true ∧ x1.oneCell' = true ∧ x2.oneCell' = true ∧ x3.oneCell' = true)
    (hF : ∀ (v : Value) (W : World), Sem.run Tryz.prog (callFunc F (#[v] ++ caps)) W = .ok (.enter F (#[v] ++ caps)) W)
    (hcl : ∀ (W : World), Below w.heap.size w W → Calls Tryz.prog F (#[.agg #[x0, x1, x2, x3]] ++ caps) W (Says g W)) :
    Calls Tryz.prog 129 #[.slice (some ⟨b, 0, none⟩) 1 c, .func (.func F) #[] caps] w fun e w' => e = .returned (.bool g) ∧ Below w.heap.size w w' := by
  have q := indexFuncL_calls F caps g b c x0 x1 x2 x3 w hk ho hF hcl
  clear hF hcl
  cases g with
  | true =>
    rw [if_pos rfl] at q
    replace q := hide q
    go_enter Tryz.func129, Tryz.ntmps129
    go_wp2_with fail
    refine q.out.mono ?_
    rintro e w1 ⟨rfl, hb⟩
    replace hb := hide hb
    go_wp2_with fail
    go_ret
    exact ⟨rfl, hb.out⟩
  | false =>
    rw [if_neg (by decide)] at q
    replace q := hide q
    go_enter Tryz.func129, Tryz.ntmps129
    go_wp2_with fail
    refine q.out.mono ?_
    rintro e w1 ⟨rfl, hb⟩
    replace hb := hide hb
    go_wp2_with fail
    go_ret
    exact ⟨rfl, hb.out⟩

theorem plantCode1_calls (x : CL) (d : DL) (W : World) (lo hi : Nat) (h : ReadL W lo hi x d) (ht : totL d ≤ 1048576) (he : Env W) :
    Calls Tryz.prog 130 (#[.agg #[.int .i64 x.1, .int .i64 x.2.1, x.2.2.1, x.2.2.2]] ++ #[]) W (Says (!(detV d)) W) := by
  have hb0 : Below W.heap.size W (W.alloc (.cells #[.int .i64 x.1, .int .i64 x.2.1, x.2.2.1, x.2.2.2] 33)) := (Below.refl _ _).alloc (Nat.le_refl _) _
  have q := hide (isDet_calls x d _ lo hi (h.below hb0 (.inr (Nat.le_refl _))) ht (he.below hb0 (Nat.le_refl _)))
  obtain ⟨s0, s1, v2, v3⟩ := x
  obtain ⟨-, -, ⟨A2, n2, k2, e2, -, -, -⟩, ⟨A3, n3, k3, e3, -, -⟩⟩ := h
  dsimp only at *
  subst e2 e3
  have hz := hb0.size
  replace hb0 := hide hb0
  clear he
  go_enter Tryz.func130, Tryz.ntmps130
  go_wp2_with fail
  refine q.out.mono ?_
  rintro e w1 ⟨rfl, hb⟩
  replace hb := hide hb
  go_wp2_with fail
  go_ret
  exact ⟨rfl, hb0.out.trans (hb.out.mono hz)⟩

set_option maxRecDepth 100000 in
set_option maxHeartbeats 800000 in
theorem plantCode_calls (x : CL) (A4 : Option Addr) (n4 k4 : Nat) (A5 : Option Addr) (n5 k5 : Nat) (d : DP) (y : CL) (ds : DL) (b c : Nat) (w : World) (lo hi lo' hi' : Nat) (hp : PlantAt w lo hi x A4 n4 k4 A5 n5 k5 d)
    (hk : w.heap[b]? = some (.cells #[.int .i64 y.1, .int .i64 y.2.1, y.2.2.1, y.2.2.2] 33 (0, 0))) (hs : ReadL w lo' hi' y ds) (hts : totL ds ≤ 1048576) (he : Env w) :
    Calls Tryz.prog 89 #[.agg #[.int .i64 x.1, .int .i64 x.2.1, x.2.2.1, x.2.2.2, .slice A4 n4 k4, .slice A5 n5 k5], .slice (some ⟨b, 0, none⟩) 1 c] w fun e w' => e = .returned (.int .i64 (if (plantV d && detV ds) = true then 0 else 1)) ∧ Below w.heap.size w w' := by
  obtain ⟨dl, vs, ns⟩ := d
  obtain ⟨hL, t4, t5, h4, h5, hss, ht⟩ := hp
  have hlt : b < w.heap.size := (Array.getElem?_eq_some_iff.1 hk).1
  have hb0 : Below w.heap.size w (w.alloc (.cells #[.int .i64 x.1, .int .i64 x.2.1, x.2.2.1, x.2.2.2, .slice A4 n4 k4, .slice A5 n5 k5] 44)) := (Below.refl _ _).alloc (Nat.le_refl _) _
  have q := plant_calls x A4 A5 n4 k4 n5 k5 dl vs ns _ lo hi (hL.below hb0 (.inr (Nat.le_refl _))) (t4.below hb0 (.inr (Nat.le_refl _))) (t5.below hb0 (.inr (Nat.le_refl _))) h4 h5 hss ht (he.below hb0 (Nat.le_refl _))
  obtain ⟨B2, m2, j2, f2, -, -, -⟩ := hs.2.2.1
  obtain ⟨B3, m3, j3, f3, -, -⟩ := hs.2.2.2
  have q2 := fun W (hW : Below w.heap.size w W) => containsFuncL_calls 130 #[] (!(detV ds)) b c _ _ _ _ W ((hW.block _ hlt).trans hk) (by rw [f2, f3]; exact ⟨rfl, rfl, rfl, rfl⟩) (fun v W => by kernel_rfl) (fun W' hW' => plantCode1_calls y ds W' lo' hi' (hs.below (hW.trans (hW'.mono hW.size)) (.inr (Nat.le_refl _))) hts (he.below (hW.trans (hW'.mono hW.size)) (Nat.le_refl _)))
  obtain ⟨s0, s1, v2, v3⟩ := x
  obtain ⟨-, -, ⟨A2, n2, k2, e2, -, -, -⟩, ⟨A3, n3, k3, e3, -, -⟩⟩ := hL
  dsimp only at *
  subst e2 e3
  have hz := hb0.size
  replace q2 := hide q2
  replace hb0 := hide hb0
  clear t4 t5 hss he hk hs f2 f3
  cases h1 : plantV (dl, vs, ns) with
  | false =>
    rw [h1] at q
    replace q := hide q
    clear h1 q2
    go_enter Tryz.func89, Tryz.ntmps89
    go_wp2_with fail
    refine q.out.mono ?_
    rintro e w1 ⟨rfl, hb⟩
    replace hb := hide hb
    go_wp2_with fail
    go_ret
    exact ⟨rfl, hb0.out.trans (hb.out.mono hz)⟩
  | true =>
    rw [h1] at q
    replace q := hide q
    clear h1
    cases h2 : detV ds with
    | false =>
      rw [h2] at q2
      clear h2
      go_enter Tryz.func89, Tryz.ntmps89
      go_wp2_with fail
      refine q.out.mono ?_
      rintro e w1 ⟨rfl, hb⟩
      have hbw := hb0.out.trans (hb.mono hz)
      have q3 := hide (q2.out _ hbw)
      replace hbw := hide hbw
      clear hb q2
      go_wp2_with fail
      refine q3.out.mono ?_
      rintro e w2 ⟨rfl, hb⟩
      have hbx := hide (hbw.out.trans (hb.mono hbw.out.size))
      clear hb
      go_wp2_with fail
      go_ret
      exact ⟨rfl, hbx.out⟩
    | true =>
      rw [h2] at q2
      clear h2
      go_enter Tryz.func89, Tryz.ntmps89
      go_wp2_with fail
      refine q.out.mono ?_
      rintro e w1 ⟨rfl, hb⟩
      have hbw := hb0.out.trans (hb.mono hz)
      have q3 := hide (q2.out _ hbw)
      replace hbw := hide hbw
      clear hb q2
      go_wp2_with fail
      refine q3.out.mono ?_
      rintro e w2 ⟨rfl, hb⟩
      have hbx := hide (hbw.out.trans (hb.mono hbw.out.size))
      clear hb
      go_wp2_with fail
      go_ret
      exact ⟨rfl, hbx.out⟩

end Go.Proofs.YtiaclddgllkgpaaGreatDoor
