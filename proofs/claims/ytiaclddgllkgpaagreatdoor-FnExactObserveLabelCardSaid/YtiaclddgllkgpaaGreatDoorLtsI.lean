/-
  The program's small tests on edges and states. Conditions: sizes.
-/
import Derived.Test.YtiaclddgllkgpaaGreatDoorLtsS4
import Derived.Deep.RegionHeld3
namespace Go.Proofs.YtiaclddgllkgpaaGreatDoor
open Go.ChangeShapes Go.WideShapes Go.ChangeAt Go.RowKit Go.Sort
set_option linter.unusedVariables false

theorem isNaN_calls (x : Int) (w : World) : Calls Tryz.prog 221 #[.int .i64 x] w fun e w' => e = .returned (.bool false) ∧ w = w' := by
  go_enter Tryz.func221, Tryz.ntmps221
  go_wp2
  go_ret
  exact ⟨by simp, rfl⟩
def cmpI (x y : Int) : Int := if x < y then -1 else if y < x then 1 else 0
theorem compare_calls (x y : Int) (w : World) : Calls Tryz.prog 194 #[.int .i64 x, .int .i64 y] w fun e w' => e = .returned (.int .i64 (cmpI x y)) ∧ w = w' := by
  have q := hide isNaN_calls
  by_cases h1 : x < y
  · have hv : Hid (cmpI x y = -1) := by show _ = _; unfold cmpI; rw [if_pos h1]
    go_enter Tryz.func194, Tryz.ntmps194
    go_wp2_with (first | (go_at_call 221; (with_reducible refine (q.out _ _).mono ?_); rintro e w' ⟨rfl, rfl⟩))
    go_ret
    exact ⟨ret_i (by rw [hv.out]), rfl⟩
  · by_cases h2 : y < x
    · have hv : Hid (cmpI x y = 1) := by show _ = _; unfold cmpI; rw [if_neg h1, if_pos h2]
      go_enter Tryz.func194, Tryz.ntmps194
      go_wp2_with (first | (go_at_call 221; (with_reducible refine (q.out _ _).mono ?_); rintro e w' ⟨rfl, rfl⟩))
      go_ret
      exact ⟨ret_i (by rw [hv.out]), rfl⟩
    · have hv : Hid (cmpI x y = 0) := by show _ = _; unfold cmpI; rw [if_neg h1, if_neg h2]
      go_enter Tryz.func194, Tryz.ntmps194
      go_wp2_with (first | (go_at_call 221; (with_reducible refine (q.out _ _).mono ?_); rintro e w' ⟨rfl, rfl⟩))
      go_ret
      exact ⟨ret_i (by rw [hv.out]), rfl⟩

def orF (l : List Int) : Int := (l.find? fun x => decide (x ≠ 0)).getD 0
theorem orF_hit {l : List Int} {k : Nat} {x : Int} (hx : l[k]? = some x) (h0 : x ≠ 0) (hn : ∀ j y, j < k → l[j]? = some y → y = 0) : orF l = x := by
  unfold orF
  have key : ∀ (l : List Int) (k : Nat), l[k]? = some x → (∀ j y, j < k → l[j]? = some y → y = 0) → l.find? (fun x => decide (x ≠ 0)) = some x := by
    intro l
    induction l with
    | nil => intro k h _; simp at h
    | cons y l ih =>
      intro k h hn
      cases k with
      | zero =>
        simp at h
        subst h
        simp [h0]
      | succ k =>
        have hy := hn 0 y (by omega) rfl
        subst hy
        simp only [List.find?_cons]
        simp
        have := ih k (by simpa using h) (fun j z hj hz => hn (j + 1) z (by omega) (by simpa using hz))
        simpa using this
  rw [key l k hx hn]
  rfl
theorem orF_miss {l : List Int} (hn : ∀ (j : Nat) y, l[j]? = some y → y = 0) : orF l = 0 := by
  unfold orF
  have : l.find? (fun x => decide (x ≠ 0)) = none := by
    rw [List.find?_eq_none]
    intro x hx
    obtain ⟨j, hj⟩ := List.getElem?_of_mem hx
    simp [hn j x hj]
  rw [this]
  rfl
theorem or_calls (A : Option Addr) (n c : Nat) (l : List Int) (w : World) (lo hi : Nat) (h : SlI w lo hi A n l) (hn : n ≤ 1048576) :
    Calls Tryz.prog 193 #[.slice A n c] w fun e w' => e = .returned (.int .i64 (orF l)) ∧ w = w' := by
  have hlen := hide h.len
  replace h := hide h
  go_enter Tryz.func193, Tryz.ntmps193
  go_wp2
  go_loop [8] (fun i => ∃ k : Nat, k ≤ n ∧ i = .int .i64 k ∧ Hid (∀ j y, j < k → l[j]? = some y → y = 0)) (fun i => n - (intOf i).toNat)
  case atStart => exact ⟨0, Nat.zero_le _, rfl, fun j y hj => absurd hj (by omega)⟩
  case round =>
    obtain ⟨k, hk, rfl, ha⟩ := hrel
    by_cases hlt : k < n
    · obtain ⟨b, off, x, rfl, g1, g2, g3, hx, c0, -⟩ := SlI.get h.out hlt
      by_cases h0 : x = 0
      · have hnext : Hid (∀ j y, j < k + 1 → l[j]? = some y → y = 0) := fun j y hj hy => by
          rcases Nat.lt_or_ge j k with h1 | h1
          · exact ha.out j y h1 hy
          · have hjk : j = k := by omega
            rw [hjk, hx] at hy
            rw [← Option.some.inj hy, h0]
        subst h0
        clear h hx ha
        go_wp2
        go_round
        case rel => exact ⟨k + 1, by omega, by go_num, hnext⟩
        case measure => simp [intOf]; omega
      · have hv : Hid (orF l = x) := orF_hit hx h0 ha.out
        have hb : (x == 0) = false := by rw [beq_eq_false_iff_ne]; exact h0
        clear h hx ha h0
        go_wp2
        go_ret
        exact ⟨ret_i (by rw [hv.out]), rfl⟩
    · have hkn : k = n := by omega
      have hv : Hid (orF l = 0) := orF_miss fun j y hy => ha.out j y (by rw [hkn, ← hlen.out]; exact (List.getElem?_eq_some_iff.1 hy).1) hy
      subst hkn
      go_wp2
      go_ret
      exact ⟨ret_i (by rw [hv.out]), rfl⟩
def cmpE (a b : Ed) : Int := orF [cmpI a.1 b.1, cmpI a.2.1 b.2.1, cmpI a.2.2 b.2.2]
theorem cmpE_less (a b : Ed) : decide (0 ≤ cmpE a b) = !(edLess a b) := by
  obtain ⟨a1, a2, a3⟩ := a
  obtain ⟨b1, b2, b3⟩ := b
  have key : ∀ x y : Int, (x < y ∧ cmpI x y = -1) ∨ (x = y ∧ cmpI x y = 0) ∨ (y < x ∧ cmpI x y = 1) := fun x y => by
    unfold cmpI
    rcases Int.lt_trichotomy x y with h | h | h
    · exact .inl ⟨h, if_pos h⟩
    · exact .inr (.inl ⟨h, by rw [if_neg (by omega), if_neg (by omega)]⟩)
    · exact .inr (.inr ⟨h, by rw [if_neg (by omega), if_pos h]⟩)
  unfold cmpE edLess orF
  dsimp only
  rcases key a1 b1 with ⟨h1, e1⟩ | ⟨h1, e1⟩ | ⟨h1, e1⟩
  · have : a1 ≠ b1 := by omega
    rw [e1]
    simp [this, h1]
  · rcases key a2 b2 with ⟨h2, e2⟩ | ⟨h2, e2⟩ | ⟨h2, e2⟩
    · have : a2 ≠ b2 := by omega
      rw [e1, e2]
      simp [h1, this, h2]
    · rcases key a3 b3 with ⟨h3, e3⟩ | ⟨h3, e3⟩ | ⟨h3, e3⟩
      · rw [e1, e2, e3]
        simp [h1, h2, h3]
      · rw [e1, e2, e3]
        simp [h1, h2, h3]
      · have : b3 ≤ a3 := by omega
        rw [e1, e2, e3]
        simp [h1, h2, this]
    · have n2 : a2 ≠ b2 := by omega
      have : b2 ≤ a2 := by omega
      rw [e1, e2]
      simp [h1, n2, this]
  · have n1 : a1 ≠ b1 := by omega
    have : b1 ≤ a1 := by omega
    rw [e1]
    simp [n1, this]

theorem or3_calls (b : Nat) (c1 c2 c3 : Int) (t : TypeId) (w : World) (hb : w.heap[b]? = some (.cells #[.int .i64 c1, .int .i64 c2, .int .i64 c3] t (0, 0))) :
    Calls Tryz.prog 193 #[.slice (some ⟨b, 0, none⟩) 3 3] w fun e w' => e = .returned (.int .i64 (orF [c1, c2, c3])) ∧ w = w' := by
  have hlt : b < w.heap.size := (Array.getElem?_eq_some_iff.1 hb).1
  refine or_calls _ 3 3 [c1, c2, c3] w 0 w.heap.size ⟨rfl, fun _ => ⟨b, 0, rfl, Nat.zero_le _, hlt, hlt, fun k x hx j u hu => ?_⟩⟩ (by omega)
  match j, hu with
  | 0, hu =>
    simp [iv] at hu
    subst hu
    simp only [Nat.zero_add, Nat.mul_one, Nat.add_zero]
    refine ⟨(cell_of_row _ _ k _ t (0, 0) hb).trans ?_, frozen_of_row _ _ _ _ t hb⟩
    match k, hx with
    | 0, hx => cases hx; rfl
    | 1, hx => cases hx; rfl
    | 2, hx => cases hx; rfl
    | k + 3, hx => simp at hx

theorem isState_calls (s0 s1 k : Int) (v2 v3 : Value) (w : World) (h1 : 1 ≤ s0) (h2 : s0 ≤ 40) :
    Calls Tryz.prog 77 #[.agg #[.int .i64 s0, .int .i64 s1, v2, v3], .int .i64 k] w fun e w' => e = .returned (.bool (inB k 0 (s0 - 1))) ∧ Below w.heap.size w w' := by
  have hb0 : Below w.heap.size w (w.alloc (.cells #[.int .i64 s0, .int .i64 s1, v2, v3] 33)) := (Below.refl _ _).alloc (Nat.le_refl _) _
  have q := hide (fun W => within_calls k 0 (s0 - 1) W)
  replace hb0 := hide hb0
  go_enter Tryz.func77, Tryz.ntmps77
  go_wp2_with (first | (go_at_call 62; (with_reducible refine (q.out _).mono ?_); rintro e w' ⟨rfl, rfl⟩))
  go_ret
  exact ⟨rfl, hb0.out⟩

set_option maxRecDepth 100000 in
set_option maxHeartbeats 1600000 in
theorem compareEdges_calls (x1 x2 x3 y1 y2 y3 : Int) (w : World) :
    Calls Tryz.prog 156 #[.agg #[.int .i64 x1, .int .i64 x2, .int .i64 x3], .agg #[.int .i64 y1, .int .i64 y2, .int .i64 y3]] w fun e w' => e = .returned (.int .i64 (cmpE (x1, x2, x3) (y1, y2, y3))) ∧ Below w.heap.size w w' := by
  have hv : Hid (cmpE (x1, x2, x3) (y1, y2, y3) = orF [cmpI x1 y1, cmpI x2 y2, cmpI x3 y3]) := rfl
  have hbA : Below w.heap.size w ((w.alloc (.cells #[.int .i64 x1, .int .i64 x2, .int .i64 x3] 86)).alloc (.cells #[.int .i64 y1, .int .i64 y2, .int .i64 y3] 86)) := ((Below.refl _ _).alloc (Nat.le_refl _) _).alloc (by simp only [World.size_alloc]; omega) _
  have k0 := (Below.heap_alloc (w.alloc (.cells #[.int .i64 x1, .int .i64 x2, .int .i64 x3] 86)) (.cells #[.int .i64 y1, .int .i64 y2, .int .i64 y3] 86) w.heap.size (by simp only [World.size_alloc]; omega)).trans (heap_alloc_new w (.cells #[.int .i64 x1, .int .i64 x2, .int .i64 x3] 86))
  have k1 := heap_alloc_new (w.alloc (.cells #[.int .i64 x1, .int .i64 x2, .int .i64 x3] 86)) (.cells #[.int .i64 y1, .int .i64 y2, .int .i64 y3] 86)
  rw [World.size_alloc] at k1
  have q := hide compare_calls
  replace hbA := hide hbA
  replace k0 := hide k0
  replace k1 := hide k1
  go_enter Tryz.func156, Tryz.ntmps156
  go_wp2_with fail
  generalize hW : ((w.alloc (.cells #[.int .i64 x1, .int .i64 x2, .int .i64 x3] 86)).alloc (.cells #[.int .i64 y1, .int .i64 y2, .int .i64 y3] 86)) = W at *
  have a0 : W.cell? ⟨w.heap.size, 0, none⟩ = some (.int .i64 x1) := (cell_of_row _ _ 0 _ _ (0, 0) k0.out).trans rfl
  have a1 : W.cell? ⟨w.heap.size, 1, none⟩ = some (.int .i64 x2) := (cell_of_row _ _ 1 _ _ (0, 0) k0.out).trans rfl
  have a2 : W.cell? ⟨w.heap.size, 2, none⟩ = some (.int .i64 x3) := (cell_of_row _ _ 2 _ _ (0, 0) k0.out).trans rfl
  have b0 : W.cell? ⟨w.heap.size + 1, 0, none⟩ = some (.int .i64 y1) := (cell_of_row _ _ 0 _ _ (0, 0) k1.out).trans rfl
  have b1 : W.cell? ⟨w.heap.size + 1, 1, none⟩ = some (.int .i64 y2) := (cell_of_row _ _ 1 _ _ (0, 0) k1.out).trans rfl
  have b2 : W.cell? ⟨w.heap.size + 1, 2, none⟩ = some (.int .i64 y3) := (cell_of_row _ _ 2 _ _ (0, 0) k1.out).trans rfl
  clear hW
  go_region_held3 (fun w' => w'.cell? ⟨w.heap.size, 0, none⟩ = some (.int .i64 x1) ∧ w'.cell? ⟨w.heap.size, 1, none⟩ = some (.int .i64 x2) ∧ w'.cell? ⟨w.heap.size, 2, none⟩ = some (.int .i64 x3) ∧ w'.cell? ⟨w.heap.size + 1, 0, none⟩ = some (.int .i64 y1) ∧ w'.cell? ⟨w.heap.size + 1, 1, none⟩ = some (.int .i64 y2) ∧ w'.cell? ⟨w.heap.size + 1, 2, none⟩ = some (.int .i64 y3)) (first | exact ⟨a0, a1, a2, b0, b1, b2⟩ | go_keep)
    (first
      | (go_at_call 194; (with_reducible refine (q.out _ _ _).mono ?_); rintro e w' ⟨rfl, rfl⟩)
      | (go_at_call 193; (refine (or3_calls _ _ _ _ _ _ (by exact heap_alloc_new W _)).mono ?_); rintro e w' ⟨rfl, rfl⟩))
  all_goals go_wp2
  all_goals go_ret
  all_goals first | exact ⟨ret_i (by rw [hv.out]), hbA.out.drew.alloc hbA.out.size _⟩ | exact ⟨ret_i (by rw [hv.out]), (hbA.out.alloc hbA.out.size _).drew⟩

end Go.Proofs.YtiaclddgllkgpaaGreatDoor
