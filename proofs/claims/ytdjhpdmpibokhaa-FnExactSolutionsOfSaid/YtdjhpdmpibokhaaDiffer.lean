/-
  The function value of DifferingValues. Conditions: valid expressions, values from 0 to 63.
-/
import Derived.Test.YtdjhpdmpibokhaaBounds2
namespace Go.Proofs.Ytdjhpdmpibokhaa
open Go.ChangeShapes Go.WideShapes Go.ChangeAt Go.RowKit
set_option linter.unusedVariables false

def updD (a b : List (Int × Int)) (s : Option (List Int)) (v : List Int) : Option (List Int) := if (valOf v a == valOf v b) = true then s else some v
def goD (a b : List (Int × Int)) (v : List Int) : Bool := valOf v a == valOf v b

/-- What the function value's variables hold: blocks t to t + 3. -/
def DSt (a b : List (Int × Int)) (px py t n : Nat) (s : Option (List Int)) (W : World) : Prop :=
  TreeAt 111 60 W (fun g => g < t) px a ∧ TreeAt 111 60 W (fun g => g < t) py b ∧
  W.heap[t]? = some (.cells #[.pointer (some ⟨px, 0, none⟩)] 81 (0, 0)) ∧ W.heap[t + 1]? = some (.cells #[.pointer (some ⟨py, 0, none⟩)] 81 (0, 0)) ∧
  match s with
  | none => W.heap[t + 2]? = some (.cells #[.slice none 0 0] 44 (0, 0)) ∧ W.heap[t + 3]? = some (.cells #[.int .i64 3] 2 (0, 0))
  | some v => ∃ A c, W.heap[t + 2]? = some (.cells #[.slice A n c] 44 (0, 0)) ∧ W.heap[t + 3]? = some (.cells #[.int .i64 0] 2 (0, 0)) ∧ SlI W (t + 5) W.heap.size A n v

theorem DSt.res {a b : List (Int × Int)} {px py t n : Nat} {s : Option (List Int)} {W : World} (h : DSt a b px py t n s W) : ∃ u k, W.heap[t + 2]? = some (.cells #[u] 44 (0, 0)) ∧ W.heap[t + 3]? = some (.cells #[k] 2 (0, 0)) := by
  obtain ⟨_, _, _, _, h5⟩ := h
  cases s with
  | none => exact ⟨_, _, h5.1, h5.2⟩
  | some v => obtain ⟨A, c, g1, g2, _⟩ := h5; exact ⟨_, _, g1, g2⟩

theorem DSt.keep {a b : List (Int × Int)} {px py t n : Nat} {s : Option (List Int)} {W W' : World} (h : DSt a b px py t n s W) (hs : W.heap.size ≤ W'.heap.size) (hk : ∀ g, g < W.heap.size → g ≠ t + 4 → W'.heap[g]? = W.heap[g]?) : DSt a b px py t n s W' := by
  obtain ⟨h1, h2, h3, h4, h5⟩ := h
  have hl3 := lt_of_block h3
  have hl4 := lt_of_block h4
  refine ⟨h1.keep hs fun g q1 q2 => ⟨hk g q2 (by omega), q1⟩, h2.keep hs fun g q1 q2 => ⟨hk g q2 (by omega), q1⟩, (hk _ hl3 (by omega)).trans h3, (hk _ hl4 (by omega)).trans h4, ?_⟩
  cases s with
  | none => exact ⟨(hk _ (lt_of_block h5.1) (by omega)).trans h5.1, (hk _ (lt_of_block h5.2) (by omega)).trans h5.2⟩
  | some v =>
    obtain ⟨A, c, g1, g2, g3⟩ := h5
    exact ⟨A, c, (hk _ (lt_of_block g1) (by omega)).trans g1, (hk _ (lt_of_block g2) (by omega)).trans g2, (g3.keep hs fun g q1 q2 q3 => hk g q3 (by omega)).top⟩

theorem DSt.only {a b : List (Int × Int)} {px py t n : Nat} {s : Option (List Int)} {W W' : World} (ho : Only (t + 4) (t + 5) W W') (h : DSt a b px py t n s W) : DSt a b px py t n s W' :=
  h.keep ho.size fun g h1 h2 => ho.block g h1 (by omega)

set_option maxHeartbeats 800000 in
set_option maxRecDepth 100000 in
theorem differing1_calls (a b : List (Int × Int)) (px py t n base : Nat) (s : Option (List Int)) (v bs : List Int) (W : World) (hS : DSt a b px py t n s W) (hv : SlI W (t + 4) (t + 5) (some ⟨t + 4, 0, none⟩) n v) (hok : okV v bs) (hbb : ∀ x ∈ bs, 0 ≤ x ∧ x ≤ 63) (hn : n ≤ 1048576)
    (ha : ∀ t ∈ a, okTerm t n = true) (hb : ∀ t ∈ b, okTerm t n = true) (hbase : base ≤ t) (hVs : t + 5 ≤ W.heap.size) :
    Calls Try.prog 79 #[.slice (some ⟨t + 4, 0, none⟩) n n, .pointer (some ⟨t, 0, none⟩), .pointer (some ⟨t + 1, 0, none⟩), .pointer (some ⟨t + 2, 0, none⟩), .pointer (some ⟨t + 3, 0, none⟩)] W       (Does (updD a b) (goD a b) (DSt a b px py t n) base (t + 4) n s v W) := by
  obtain ⟨u, k, hu, hk⟩ := hS.res
  have hvb := okV_mem hok (fun x hx => (hbb x hx).2)
  have y1 := cell_of_row _ _ 0 _ _ _ hS.2.2.1
  have y2 := cell_of_row _ _ 0 _ _ _ hS.2.2.2.1
  simp at y1 y2
  have q1 := hide (fun N => value_calls 60 px a _ n n v (W.drewN N) _ _ (hS.1.keep (Nat.le_refl _) fun _ _ _ => ⟨rfl, trivial⟩) (hv.drewN N) hn ha hvb)
  have q2 := hide (fun N => value_calls 60 py b _ n n v (W.drewN N) _ _ (hS.2.1.keep (Nat.le_refl _) fun _ _ _ => ⟨rfl, trivial⟩) (hv.drewN N) hn hb hvb)
  by_cases he : (valOf v a == valOf v b) = true
  · have hup : Hid (updD a b s v = s) := if_pos he
    have hgo : Hid (goD a b v = true) := he
    replace hS := hide hS
    replace hv := hide hv
    clear hu hk hvb
    go_enter Try.func79, Try.ntmps79
    go_wp2_with fail
    go_quiet ((first | (go_at_call 80; with_reducible exact Calls.quiet_of (q1.out _)) | (go_at_call 80; with_reducible exact Calls.quiet_of (q2.out _))))
    go_wp2_with fail
    go_ret
    exact ⟨ret_b hgo.out, by rw [hup.out]; exact hS.out.keep (Nat.le_refl _) (fun _ _ _ => rfl), hv.out.drewN _, ⟨rfl, rfl, rfl, Nat.le_refl _, fun _ _ => rfl⟩⟩
  · replace he := Bool.eq_false_iff.2 he
    have hup : Hid (updD a b s v = some v) := if_neg (by rw [he]; decide)
    have hgo : Hid (goD a b v = false) := he
    have q3 := hide (fun N => cloneI_calls _ n n v (W.drewN N) _ _ (hv.drewN N) hn)
    replace hS := hide hS
    replace hv := hide hv
    replace hu := hide hu
    replace hk := hide hk
    clear hvb
    go_enter Try.func79, Try.ntmps79
    go_wp2_with fail
    go_quiet ((first | (go_at_call 80; with_reducible exact Calls.quiet_of (q1.out _)) | (go_at_call 80; with_reducible exact Calls.quiet_of (q2.out _))))
    go_wp2_with fail
    refine (q3.out _).mono ?_
    rintro e w1 ⟨A', c', rfl, hA', hb1⟩
    have hu1 := (hb1.block (t + 2) (lt_of_block hu.out)).trans hu.out
    have hk1 := (hb1.block (t + 3) (lt_of_block hk.out)).trans hk.out
    have z1 := cell_of_row _ _ 0 _ _ _ hu1
    have z2 := frozen_of_row _ _ 0 _ _ hu1
    have z3 := cell_of_row _ _ 0 _ _ _ hk1
    have z4 := frozen_of_row _ _ 0 _ _ hk1
    simp at z1 z3
    go_wp2_with fail
    go_ret
    have hz1 := hb1.size
    replace hz1 : W.heap.size ≤ w1.heap.size := hz1
    have hko : ∀ g, g ≠ t + 2 → g ≠ t + 3 → ((w1.setCell ⟨t + 2, 0, none⟩ (.slice A' n c')).setCell ⟨t + 3, 0, none⟩ (.int .i64 0)).heap[g]? = w1.heap[g]? := fun g k1 k2 => by
      rw [Below.heap_setCell _ _ _ _ k2, Below.heap_setCell _ _ _ _ k1]
    have hkW : ∀ g, g < W.heap.size → g ≠ t + 2 → g ≠ t + 3 → ((w1.setCell ⟨t + 2, 0, none⟩ (.slice A' n c')).setCell ⟨t + 3, 0, none⟩ (.int .i64 0)).heap[g]? = W.heap[g]? := fun g k0 k1 k2 => (hko g k1 k2).trans (hb1.block g k0)
    have hsz : W.heap.size ≤ ((w1.setCell ⟨t + 2, 0, none⟩ (.slice A' n c')).setCell ⟨t + 3, 0, none⟩ (.int .i64 0)).heap.size := by simp [World.setCell]; omega
    have e2 : ((w1.setCell ⟨t + 2, 0, none⟩ (.slice A' n c')).setCell ⟨t + 3, 0, none⟩ (.int .i64 0)).heap[t + 2]? = some (.cells #[.slice A' n c'] 44 (0, 0)) := by
      rw [Below.heap_setCell _ _ _ _ (by show t + 2 ≠ t + 3; omega), heap_setCell_same _ _ _ _ _ _ hu1]
      rfl
    have e3 : ((w1.setCell ⟨t + 2, 0, none⟩ (.slice A' n c')).setCell ⟨t + 3, 0, none⟩ (.int .i64 0)).heap[t + 3]? = some (.cells #[.int .i64 0] 2 (0, 0)) := by
      rw [heap_setCell_same _ _ _ _ _ _ ((Below.heap_setCell _ _ _ _ (by show t + 3 ≠ t + 2; omega)).trans hk1)]
      rfl
    obtain ⟨h1, h2, h3, h4, _⟩ := hS.out
    refine ⟨ret_b hgo.out, ?_, hv.out.keep hsz (fun g k1 k2 k3 => hkW g k3 (by omega) (by omega)), ?_⟩
    · rw [hup.out]
      refine ⟨h1.keep hsz fun g k1 k2 => ⟨hkW g k2 (by omega) (by omega), k1⟩, h2.keep hsz fun g k1 k2 => ⟨hkW g k2 (by omega) (by omega), k1⟩, (hkW _ (lt_of_block h3) (by omega) (by omega)).trans h3, (hkW _ (lt_of_block h4) (by omega) (by omega)).trans h4, A', c', e2, e3, ?_⟩
      exact ((hA'.more (lo' := t + 5) hVs (Nat.le_refl _)).keep (by simp [World.setCell]) fun g k1 k2 k3 => hko g (by omega) (by omega)).top
    · exact (((Below.mono ⟨hb1.os, hb1.tape, hb1.output, hz1, hb1.block⟩ (by show base ≤ W.heap.size; omega) : Below base W w1).setCell (by show base ≤ t + 2; omega) _).setCell (by show base ≤ t + 3; omega) _)

end Go.Proofs.Ytdjhpdmpibokhaa
