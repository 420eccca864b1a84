/-
  Several texts in one:
  The program's small tests on edges and states. Conditions: sizes.
  The program's test of a system. Conditions: sizes.
  The program's test of a deterministic system, and of monitors. Conditions: sizes.
  Edges by a label in deterministic systems: at most one. Conditions: none.
  The reference's test of monitors. Conditions: sizes.
  Two different texts: their bytes differ. Conditions: none.
  One step of a deterministic system, by the reference. Conditions: sizes.
  Sorting and compacting lists of at most one number; finding a number in a list. Conditions: sizes.
  One step of a deterministic system, by the program. Conditions: sizes.
-/
import Derived.Test.YtnhomkmfbngmgaaGreatDoorBaseB
import Derived.Test.YtnhomkmfbngmgaaGreatDoorBaseD
import Derived.Deep.RegionHeld3
set_option linter.unusedSimpArgs false
set_option linter.unusedVariables false
namespace Go.Proofs.YtnhomkmfbngmgaaGreatDoor
open Go.ChangeShapes Go.WideShapes Go.ChangeAt Go.RowKit Go.Sort
set_option linter.unusedVariables false

theorem isNaN_calls (x : Int) (w : World) : Calls Tryz.prog 274 #[.int .i64 x] w fun e w' => e = .returned (.bool false) ∧ w = w' := by
  go_enter Tryz.func274, Tryz.ntmps274
  go_wp2
  go_ret
  exact ⟨by simp, rfl⟩
def cmpI (x y : Int) : Int := if x < y then -1 else if y < x then 1 else 0
theorem compare_calls (x y : Int) (w : World) : Calls Tryz.prog 216 #[.int .i64 x, .int .i64 y] w fun e w' => e = .returned (.int .i64 (cmpI x y)) ∧ w = w' := by
  have q := hide isNaN_calls
  by_cases h1 : x < y
  · have hv : Hid (cmpI x y = -1) := by show _ = _; unfold cmpI; rw [if_pos h1]
    go_enter Tryz.func216, Tryz.ntmps216
    go_wp2_with (first | (go_at_call 274; (with_reducible refine (q.out _ _).mono ?_); rintro e w' ⟨rfl, rfl⟩))
    go_ret
    exact ⟨ret_i (by rw [hv.out]), rfl⟩
  · by_cases h2 : y < x
    · have hv : Hid (cmpI x y = 1) := by show _ = _; unfold cmpI; rw [if_neg h1, if_pos h2]
      go_enter Tryz.func216, Tryz.ntmps216
      go_wp2_with (first | (go_at_call 274; (with_reducible refine (q.out _ _).mono ?_); rintro e w' ⟨rfl, rfl⟩))
      go_ret
      exact ⟨ret_i (by rw [hv.out]), rfl⟩
    · have hv : Hid (cmpI x y = 0) := by show _ = _; unfold cmpI; rw [if_neg h1, if_neg h2]
      go_enter Tryz.func216, Tryz.ntmps216
      go_wp2_with (first | (go_at_call 274; (with_reducible refine (q.out _ _).mono ?_); rintro e w' ⟨rfl, rfl⟩))
      go_ret
      exact ⟨ret_i (by rw [hv.out]), rfl⟩

def orF (l : List Int) : Int := (l.find? fun x => decide (x ≠ 0)).getD 0
theorem orF_hit {l : List Int} {k : Nat} {x : Int} (hx : l[k]? = some x) (h0 : x ≠ 0) (hn : ∀ j y, j < k → l[j]? = some y → y = 0) : orF l = x := by
  unfold orF
  have key : ∀ (l : List Int) (k : Nat), l[k]? = some x → (∀ j y, j < k → l[j]? = some y → y = 0) → l.find? (fun x => decide (x ≠ 0)) = some x := by
    intro l
    induction l with
    | nil => intro k h _; simp at h
    | cons y l ih =>
      intro k h hn
      cases k with
      | zero =>
        simp at h
        subst h
        simp [h0]
      | succ k =>
        have hy := hn 0 y (by omega) rfl
        subst hy
        simp only [List.find?_cons]
        simp
        have := ih k (by simpa using h) (fun j z hj hz => hn (j + 1) z (by omega) (by simpa using hz))
        simpa using this
  rw [key l k hx hn]
  rfl
theorem orF_miss {l : List Int} (hn : ∀ (j : Nat) y, l[j]? = some y → y = 0) : orF l = 0 := by
  unfold orF
  have : l.find? (fun x => decide (x ≠ 0)) = none := by
    rw [List.find?_eq_none]
    intro x hx
    obtain ⟨j, hj⟩ := List.getElem?_of_mem hx
    simp [hn j x hj]
  rw [this]
  rfl
theorem or_calls (A : Option Addr) (n c : Nat) (l : List Int) (w : World) (lo hi : Nat) (h : SlI w lo hi A n l) (hn : n ≤ 1048576) :
    Calls Tryz.prog 215 #[.slice A n c] w fun e w' => e = .returned (.int .i64 (orF l)) ∧ w = w' := by
  have hlen := hide h.len
  replace h := hide h
  go_enter Tryz.func215, Tryz.ntmps215
  go_wp2
  go_loop [8] (fun i => ∃ k : Nat, k ≤ n ∧ i = .int .i64 k ∧ Hid (∀ j y, j < k → l[j]? = some y → y = 0)) (fun i => n - (intOf i).toNat)
  case atStart => exact ⟨0, Nat.zero_le _, rfl, fun j y hj => absurd hj (by omega)⟩
  case round =>
    obtain ⟨k, hk, rfl, ha⟩ := hrel
    by_cases hlt : k < n
    · obtain ⟨b, off, x, rfl, g1, g2, g3, hx, c0, -⟩ := SlI.get h.out hlt
      by_cases h0 : x = 0
      · have hnext : Hid (∀ j y, j < k + 1 → l[j]? = some y → y = 0) := fun j y hj hy => by
          rcases Nat.lt_or_ge j k with h1 | h1
          · exact ha.out j y h1 hy
          · have hjk : j = k := by omega
            rw [hjk, hx] at hy
            rw [← Option.some.inj hy, h0]
        subst h0
        clear h hx ha
        go_wp2
        go_round
        case rel => exact ⟨k + 1, by omega, by go_num, hnext⟩
        case measure => simp [intOf]; omega
      · have hv : Hid (orF l = x) := orF_hit hx h0 ha.out
        have hb : (x == 0) = false := by rw [beq_eq_false_iff_ne]; exact h0
        clear h hx ha h0
        go_wp2
        go_ret
        exact ⟨ret_i (by rw [hv.out]), rfl⟩
    · have hkn : k = n := by omega
      have hv : Hid (orF l = 0) := orF_miss fun j y hy => ha.out j y (by rw [hkn, ← hlen.out]; exact (List.getElem?_eq_some_iff.1 hy).1) hy
      subst hkn
      go_wp2
      go_ret
      exact ⟨ret_i (by rw [hv.out]), rfl⟩
def cmpE (a b : Ed) : Int := orF [cmpI a.1 b.1, cmpI a.2.1 b.2.1, cmpI a.2.2 b.2.2]
theorem cmpE_less (a b : Ed) : decide (0 ≤ cmpE a b) = !(edLess a b) := by
  obtain ⟨a1, a2, a3⟩ := a
  obtain ⟨b1, b2, b3⟩ := b
  have key : ∀ x y : Int, (x < y ∧ cmpI x y = -1) ∨ (x = y ∧ cmpI x y = 0) ∨ (y < x ∧ cmpI x y = 1) := fun x y => by
    unfold cmpI
    rcases Int.lt_trichotomy x y with h | h | h
    · exact .inl ⟨h, if_pos h⟩
    · exact .inr (.inl ⟨h, by rw [if_neg (by omega), if_neg (by omega)]⟩)
    · exact .inr (.inr ⟨h, by rw [if_neg (by omega), if_pos h]⟩)
  unfold cmpE edLess orF
  dsimp only
  rcases key a1 b1 with ⟨h1, e1⟩ | ⟨h1, e1⟩ | ⟨h1, e1⟩
  · have : a1 ≠ b1 := by omega
    rw [e1]
    simp [this, h1]
  · rcases key a2 b2 with ⟨h2, e2⟩ | ⟨h2, e2⟩ | ⟨h2, e2⟩
    · have : a2 ≠ b2 := by omega
      rw [e1, e2]
      simp [h1, this, h2]
    · rcases key a3 b3 with ⟨h3, e3⟩ | ⟨h3, e3⟩ | ⟨h3, e3⟩
      · rw [e1, e2, e3]
        simp [h1, h2, h3]
      · rw [e1, e2, e3]
        simp [h1, h2, h3]
      · have : b3 ≤ a3 := by omega
        rw [e1, e2, e3]
        simp [h1, h2, this]
    · have n2 : a2 ≠ b2 := by omega
      have : b2 ≤ a2 := by omega
      rw [e1, e2]
      simp [h1, n2, this]
  · have n1 : a1 ≠ b1 := by omega
    have : b1 ≤ a1 := by omega
    rw [e1]
    simp [n1, this]

theorem or3_calls (b : Nat) (c1 c2 c3 : Int) (t : TypeId) (w : World) (hb : w.heap[b]? = some (.cells #[.int .i64 c1, .int .i64 c2, .int .i64 c3] t (0, 0))) :
    Calls Tryz.prog 215 #[.slice (some ⟨b, 0, none⟩) 3 3] w fun e w' => e = .returned (.int .i64 (orF [c1, c2, c3])) ∧ w = w' := by
  have hlt : b < w.heap.size := (Array.getElem?_eq_some_iff.1 hb).1
  refine or_calls _ 3 3 [c1, c2, c3] w 0 w.heap.size ⟨rfl, fun _ => ⟨b, 0, rfl, Nat.zero_le _, hlt, hlt, fun k x hx j u hu => ?_⟩⟩ (by omega)
  match j, hu with
  | 0, hu =>
    simp [iv] at hu
    subst hu
    simp only [Nat.zero_add, Nat.mul_one, Nat.add_zero]
    refine ⟨(cell_of_row _ _ k _ t (0, 0) hb).trans ?_, frozen_of_row _ _ _ _ t hb⟩
    match k, hx with
    | 0, hx => cases hx; rfl
    | 1, hx => cases hx; rfl
    | 2, hx => cases hx; rfl
    | k + 3, hx => simp at hx

theorem isState_calls (s0 s1 k : Int) (v2 v3 : Value) (w : World) (h1 : 1 ≤ s0) (h2 : s0 ≤ 40) :
    Calls Tryz.prog 119 #[.agg #[.int .i64 s0, .int .i64 s1, v2, v3], .int .i64 k] w fun e w' => e = .returned (.bool (inB k 0 (s0 - 1))) ∧ Below w.heap.size w w' := by
  have hb0 : Below w.heap.size w (w.alloc (.cells #[.int .i64 s0, .int .i64 s1, v2, v3] 27)) := (Below.refl _ _).alloc (Nat.le_refl _) _
  have q := hide (fun W => within_calls k 0 (s0 - 1) W)
  replace hb0 := hide hb0
  go_enter Tryz.func119, Tryz.ntmps119
  go_wp2_with (first | (go_at_call 118; (with_reducible refine (q.out _).mono ?_); rintro e w' ⟨rfl, rfl⟩))
  go_ret
  exact ⟨rfl, hb0.out⟩

set_option maxRecDepth 100000 in
set_option maxHeartbeats 1600000 in
theorem compareEdges_calls (x1 x2 x3 y1 y2 y3 : Int) (w : World) :
    Calls Tryz.prog 122 #[.agg #[.int .i64 x1, .int .i64 x2, .int .i64 x3], .agg #[.int .i64 y1, .int .i64 y2, .int .i64 y3]] w fun e w' => e = .returned (.int .i64 (cmpE (x1, x2, x3) (y1, y2, y3))) ∧ Below w.heap.size w w' := by
  have hv : Hid (cmpE (x1, x2, x3) (y1, y2, y3) = orF [cmpI x1 y1, cmpI x2 y2, cmpI x3 y3]) := rfl
  have hbA : Below w.heap.size w ((w.alloc (.cells #[.int .i64 x1, .int .i64 x2, .int .i64 x3] 84)).alloc (.cells #[.int .i64 y1, .int .i64 y2, .int .i64 y3] 84)) := ((Below.refl _ _).alloc (Nat.le_refl _) _).alloc (by simp only [World.size_alloc]; omega) _
  have k0 := (Below.heap_alloc (w.alloc (.cells #[.int .i64 x1, .int .i64 x2, .int .i64 x3] 84)) (.cells #[.int .i64 y1, .int .i64 y2, .int .i64 y3] 84) w.heap.size (by simp only [World.size_alloc]; omega)).trans (heap_alloc_new w (.cells #[.int .i64 x1, .int .i64 x2, .int .i64 x3] 84))
  have k1 := heap_alloc_new (w.alloc (.cells #[.int .i64 x1, .int .i64 x2, .int .i64 x3] 84)) (.cells #[.int .i64 y1, .int .i64 y2, .int .i64 y3] 84)
  rw [World.size_alloc] at k1
  have q := hide compare_calls
  replace hbA := hide hbA
  replace k0 := hide k0
  replace k1 := hide k1
  go_enter Tryz.func122, Tryz.ntmps122
  go_wp2_with fail
  generalize hW : ((w.alloc (.cells #[.int .i64 x1, .int .i64 x2, .int .i64 x3] 84)).alloc (.cells #[.int .i64 y1, .int .i64 y2, .int .i64 y3] 84)) = W at *
  have a0 : W.cell? ⟨w.heap.size, 0, none⟩ = some (.int .i64 x1) := (cell_of_row _ _ 0 _ _ (0, 0) k0.out).trans rfl
  have a1 : W.cell? ⟨w.heap.size, 1, none⟩ = some (.int .i64 x2) := (cell_of_row _ _ 1 _ _ (0, 0) k0.out).trans rfl
  have a2 : W.cell? ⟨w.heap.size, 2, none⟩ = some (.int .i64 x3) := (cell_of_row _ _ 2 _ _ (0, 0) k0.out).trans rfl
  have b0 : W.cell? ⟨w.heap.size + 1, 0, none⟩ = some (.int .i64 y1) := (cell_of_row _ _ 0 _ _ (0, 0) k1.out).trans rfl
  have b1 : W.cell? ⟨w.heap.size + 1, 1, none⟩ = some (.int .i64 y2) := (cell_of_row _ _ 1 _ _ (0, 0) k1.out).trans rfl
  have b2 : W.cell? ⟨w.heap.size + 1, 2, none⟩ = some (.int .i64 y3) := (cell_of_row _ _ 2 _ _ (0, 0) k1.out).trans rfl
  clear hW
  go_region_held3 (fun w' => w'.cell? ⟨w.heap.size, 0, none⟩ = some (.int .i64 x1) ∧ w'.cell? ⟨w.heap.size, 1, none⟩ = some (.int .i64 x2) ∧ w'.cell? ⟨w.heap.size, 2, none⟩ = some (.int .i64 x3) ∧ w'.cell? ⟨w.heap.size + 1, 0, none⟩ = some (.int .i64 y1) ∧ w'.cell? ⟨w.heap.size + 1, 1, none⟩ = some (.int .i64 y2) ∧ w'.cell? ⟨w.heap.size + 1, 2, none⟩ = some (.int .i64 y3)) (first | exact ⟨a0, a1, a2, b0, b1, b2⟩ | go_keep)
    (first
      | (go_at_call 216; (with_reducible refine (q.out _ _ _).mono ?_); rintro e w' ⟨rfl, rfl⟩)
      | (go_at_call 215; (refine (or3_calls _ _ _ _ _ _ (by exact heap_alloc_new W _)).mono ?_); rintro e w' ⟨rfl, rfl⟩))
  all_goals go_wp2
  all_goals go_ret
  all_goals first | exact ⟨ret_i (by rw [hv.out]), hbA.out.drew.alloc hbA.out.size _⟩ | exact ⟨ret_i (by rw [hv.out]), (hbA.out.alloc hbA.out.size _).drew⟩

end Go.Proofs.YtnhomkmfbngmgaaGreatDoor

namespace Go.Proofs.YtnhomkmfbngmgaaGreatDoor
open Go.ChangeShapes Go.WideShapes Go.ChangeAt Go.RowKit Go.Sort
set_option linter.unusedVariables false

theorem okL_at2 {l : List ByteArray} {k : Nat} {x y : ByteArray} (hx : l[k]? = some x) (hk : 0 < k) (hy : l[k - 1]? = some y) : okL l k = ((labS x && !(decide (x = tauB))) && (decide (k ≤ 1) || !(Op.bytesLess x.toList y.toList || x.toList == y.toList))) := by
  rw [okL_at hx hk hy, bytesLess_total]
  rfl
theorem okL_bad {l : List ByteArray} {k : Nat} {x : ByteArray} (hx : l[k]? = some x) (h : labS x = false) : okL l k = false := by
  show okLab labS sLess l k = _
  unfold okLab
  rw [hx]
  simp [h]

set_option maxRecDepth 100000 in
set_option maxHeartbeats 3200000 in
theorem validLts_calls (x : CL) (d : DL) (w : World) (lo hi : Nat) (h : ReadL w lo hi x d) (htot : totL d ≤ 1048576) (he : Env w) :
    Calls Tryz.prog 54 #[.agg #[.int .i64 x.1, .int .i64 x.2.1, x.2.2.1, x.2.2.2]] w fun e w' => e = .returned (.bool (ltsV d)) ∧ Below w.heap.size w w' := by
  obtain ⟨s0, s1, v2, v3⟩ := x
  obtain ⟨st, ini, ls, es⟩ := d
  obtain ⟨e0, e1, ⟨A2, n2, k2, e2, hn2, hs2, t2⟩, ⟨A3, n3, k3, e3, hn3, t3⟩⟩ := h
  dsimp only at *
  subst e0 e1 e2 e3
  have l2 := t2.len
  have l3 := t3.len
  have hls : n2 ≤ 1048576 := by rw [← l2]; exact Nat.le_trans (totL_lab (s0, s1, ls, es)) htot
  have hes : n3 ≤ 1048576 := by rw [← l3]; exact Nat.le_trans (totL_edg (s0, s1, ls, es)) htot
  have hss : Hid (∀ s ∈ ls, s.size ≤ 1048576) := fun s hs => by
    have h1 : s.size ≤ (ls.map (·.size)).sum := mem_le_sum (List.mem_map.2 ⟨s, hs, rfl⟩)
    simp only [totL, totS] at htot
    omega
  have hval : ltsV (s0, s1, ls, es) = ((inB s0 1 40 && inB s1 0 (s0 - 1) && inB (n2 : Int) 1 12 && decide (n3 ≤ 300)) && (allK (okL ls) n2 && allK (okEd s0 (n2 : Int) es) n3)) := by rw [← l2, ← l3]; rfl
  replace l2 := hide l2
  replace l3 := hide l3
  replace t2 := hide t2
  replace t3 := hide t3
  have hW0 := hide ((Below.refl w.heap.size w).alloc (Nat.le_refl _) (.cells #[.int .i64 s0, .int .i64 s1, .slice A2 n2 k2, .slice A3 n3 k3] 27))
  have kE := heap_alloc_new w (.cells #[.int .i64 s0, .int .i64 s1, .slice A2 n2 k2, .slice A3 n3 k3] 27)
  have hbt : w.heap.size < (w.alloc (.cells #[.int .i64 s0, .int .i64 s1, .slice A2 n2 k2, .slice A3 n3 k3] 27)).heap.size := by rw [World.size_alloc]; omega
  replace he := hide he
  have hbt1 : w.heap.size + 1 ≤ (w.alloc (.cells #[.int .i64 s0, .int .i64 s1, .slice A2 n2 k2, .slice A3 n3 k3] 27)).heap.size := hbt
  clear htot hs2 hn2 hn3
  go_enter Tryz.func54, Tryz.ntmps54
  go_upto_region 1 with fail
  have c0 : (w.alloc (.cells #[.int .i64 s0, .int .i64 s1, .slice A2 n2 k2, .slice A3 n3 k3] 27)).cell? ⟨w.heap.size, 0, none⟩ = some (.int .i64 s0) := (cell_of_row _ _ 0 _ _ (0, 0) kE).trans rfl
  have c1 : (w.alloc (.cells #[.int .i64 s0, .int .i64 s1, .slice A2 n2 k2, .slice A3 n3 k3] 27)).cell? ⟨w.heap.size, 1, none⟩ = some (.int .i64 s1) := (cell_of_row _ _ 1 _ _ (0, 0) kE).trans rfl
  have c2 : (w.alloc (.cells #[.int .i64 s0, .int .i64 s1, .slice A2 n2 k2, .slice A3 n3 k3] 27)).cell? ⟨w.heap.size, 2, none⟩ = some (.slice A2 n2 k2) := (cell_of_row _ _ 2 _ _ (0, 0) kE).trans rfl
  have c3 : (w.alloc (.cells #[.int .i64 s0, .int .i64 s1, .slice A2 n2 k2, .slice A3 n3 k3] 27)).cell? ⟨w.heap.size, 3, none⟩ = some (.slice A3 n3 k3) := (cell_of_row _ _ 3 _ _ (0, 0) kE).trans rfl
  clear kE
  generalize hWW : (w.alloc (.cells #[.int .i64 s0, .int .i64 s1, .slice A2 n2 k2, .slice A3 n3 k3] 27)) = W0 at *
  clear hWW
  cases z0 : inB s0 1 40 with
  | false =>
    rw [z0] at hval
    have hv : Hid (ltsV (s0, s1, ls, es) = false) := hval
    clear hval
    go_wp2_with (first | (go_at_call 118; (with_reducible refine (within_calls _ _ _ _).mono ?_); rintro e w' ⟨rfl, rfl⟩))
    go_ret
    exact ⟨ret_b (by rw [hv.out]), hW0.out⟩
  | true =>
  have hst := inB_true.1 z0
  have hst1 := hst.1
  have hst2 := hst.2
  clear hst
  rw [z0] at hval
  cases z1 : inB s1 0 (s0 - 1) with
  | false =>
    rw [z1] at hval
    have hv : Hid (ltsV (s0, s1, ls, es) = false) := hval
    clear hval
    go_wp2_with (first | (go_at_call 118; (with_reducible refine (within_calls _ _ _ _).mono ?_); rintro e w' ⟨rfl, rfl⟩) | (go_at_call 119; (with_reducible refine (isState_calls _ _ _ _ _ _ hst1 hst2).mono ?_); rintro e w1 ⟨rfl, hb1⟩; have a2 := (hb1.cell (p := ⟨w.heap.size, 2, none⟩) hbt).trans c2; have a3 := (hb1.cell (p := ⟨w.heap.size, 3, none⟩) hbt).trans c3; replace hb1 := hide hb1))
    go_ret
    exact ⟨ret_b (by rw [hv.out]), hW0.out.trans (hb1.out.mono (Nat.le_of_lt hbt))⟩
  | true =>
  rw [z1] at hval
  cases z2 : inB (n2 : Int) 1 12 with
  | false =>
    rw [z2] at hval
    have hv : Hid (ltsV (s0, s1, ls, es) = false) := hval
    clear hval
    go_wp2_with (first | (go_at_call 118; (with_reducible refine (within_calls _ _ _ _).mono ?_); rintro e w' ⟨rfl, rfl⟩) | (go_at_call 119; (with_reducible refine (isState_calls _ _ _ _ _ _ hst1 hst2).mono ?_); rintro e w1 ⟨rfl, hb1⟩; have a2 := (hb1.cell (p := ⟨w.heap.size, 2, none⟩) hbt).trans c2; have a3 := (hb1.cell (p := ⟨w.heap.size, 3, none⟩) hbt).trans c3; replace hb1 := hide hb1))
    go_ret
    exact ⟨ret_b (by rw [hv.out]), hW0.out.trans (hb1.out.mono (Nat.le_of_lt hbt))⟩
  | true =>
  rw [z2] at hval
  by_cases h300 : n3 ≤ 300
  case neg =>
    rw [decide_eq_false h300] at hval
    have hv : Hid (ltsV (s0, s1, ls, es) = false) := hval
    have h3I : (300 : Int) < (n3 : Int) := by omega
    clear hval
    go_wp2_with (first | (go_at_call 118; (with_reducible refine (within_calls _ _ _ _).mono ?_); rintro e w' ⟨rfl, rfl⟩) | (go_at_call 119; (with_reducible refine (isState_calls _ _ _ _ _ _ hst1 hst2).mono ?_); rintro e w1 ⟨rfl, hb1⟩; have a2 := (hb1.cell (p := ⟨w.heap.size, 2, none⟩) hbt).trans c2; have a3 := (hb1.cell (p := ⟨w.heap.size, 3, none⟩) hbt).trans c3; replace hb1 := hide hb1))
    go_ret
    exact ⟨ret_b (by rw [hv.out]), hW0.out.trans (hb1.out.mono (Nat.le_of_lt hbt))⟩
  rw [decide_eq_true h300] at hval
  have hval2 : Hid (ltsV (s0, s1, ls, es) = (allK (okL ls) n2 && allK (okEd s0 (n2 : Int) es) n3)) := by show _ = _; rw [hval]; rfl
  have h3I : ¬ (300 : Int) < (n3 : Int) := by omega
  clear hval
  go_wp2_with (first | (go_at_call 118; (with_reducible refine (within_calls _ _ _ _).mono ?_); rintro e w' ⟨rfl, rfl⟩) | (go_at_call 119; (with_reducible refine (isState_calls _ _ _ _ _ _ hst1 hst2).mono ?_); rintro e w1 ⟨rfl, hb1⟩; have a2 := (hb1.cell (p := ⟨w.heap.size, 2, none⟩) hbt).trans c2; have a3 := (hb1.cell (p := ⟨w.heap.size, 3, none⟩) hbt).trans c3; replace hb1 := hide hb1))
  have hb1' := hide (hb1.out.mono hbt1)
  clear hb1
  go_loopw [34] (fun i wr => ∃ k : Nat, k ≤ n2 ∧ i = .int .i64 (k : Nat) ∧ Hid (∀ j, j < k → okL ls j = true) ∧ Below (w.heap.size + 1) W0 wr) (fun i _ => n2 - (intOf i).toNat)
  case atStart => exact ⟨0, Nat.zero_le _, rfl, fun j hj => absurd hj (by omega), hb1'.out⟩
  case round =>
    obtain ⟨k, hk, rfl, ha, hb⟩ := hrel
    have hwb := hW0.out.trans (hb.mono (Nat.le_succ _))
    have y2 := (hb.cell (p := ⟨w.heap.size, 2, none⟩) (Nat.lt_succ_self _)).trans c2
    have y3 := (hb.cell (p := ⟨w.heap.size, 3, none⟩) (Nat.lt_succ_self _)).trans c3
    have hgw := Nat.lt_of_lt_of_le hbt hb.size
    clear a2 a3
    by_cases hlt : k < n2
    · obtain ⟨b, off, s, rfl, g1, g2, g3, hx, p0, -⟩ := SlS.get t2.out hlt
      replace p0 := (hwb.cell (p := ⟨b, off + k, none⟩) g3).trans p0
      have hg := Nat.lt_of_lt_of_le g3 hwb.size
      have q := isLabel_calls s wr (hss.out s (List.mem_of_getElem? hx)) (he.out.below hwb (Nat.le_refl _))
      cases hlab : labS s with
      | false =>
        have hv : Hid (ltsV (s0, s1, ls, es) = false) := by show _ = _; rw [hval2.out, allK_bad hlt (okL_bad hx hlab)]; rfl
        rw [hlab] at q
        replace q := hide q
        clear hx ha hlab t2 t3 hss
        go_wp2_with (first | (go_at_call 120; (with_reducible refine q.out.mono ?_); rintro e w2 ⟨rfl, hb2⟩; have m2 := (hb2.cell (p := ⟨w.heap.size, 2, none⟩) hgw).trans y2; have m3 := (hb2.cell (p := ⟨w.heap.size, 3, none⟩) hgw).trans y3; replace hb2 := hide hb2))
        go_ret
        exact ⟨ret_b (by rw [hv.out]), hwb.trans (hb2.out.mono hwb.size)⟩
      | true =>
      rw [hlab] at q
      replace q := hide q
      by_cases hk0 : 0 < k
      · obtain ⟨b', off', r, eA, -, -, -, hy, p1, -⟩ := SlS.get t2.out (show k - 1 < n2 by omega)
        cases eA
        replace p1 := (hwb.cell (p := ⟨b, off + (k - 1), none⟩) g3).trans p1
        have hok := okL_at2 hx hk0 hy
        rw [hlab] at hok
        have hkb : ((k : Int) == 0) = false := by rw [beq_eq_false_iff_ne]; omega
        clear hx hy hlab
        by_cases htx : s = tauB
        · have hv : Hid (ltsV (s0, s1, ls, es) = false) := by show _ = _; rw [hval2.out, allK_bad hlt (by rw [hok, decide_eq_true htx]; rfl)]; rfl
          have htt : (s.toList == [116, 97, 117]) = true := by rw [htx, tau_list]; rfl
          clear ha hok htx t2 t3 hss
          go_wp2_with (first | (go_at_call 120; (with_reducible refine q.out.mono ?_); rintro e w2 ⟨rfl, hb2⟩; have m2 := (hb2.cell (p := ⟨w.heap.size, 2, none⟩) hgw).trans y2; have m3 := (hb2.cell (p := ⟨w.heap.size, 3, none⟩) hgw).trans y3; have m4 := (hb2.cell (p := ⟨b, off + (k - 1), none⟩) hg).trans p1; replace hb2 := hide hb2))
          go_ret
          exact ⟨ret_b (by rw [hv.out]), hwb.trans (hb2.out.mono hwb.size)⟩
        have hne := tau_ne htx
        rw [decide_eq_false htx] at hok
        by_cases h1 : k = 1
        · have hnext : Hid (∀ j, j < k + 1 → okL ls j = true) := lt_succ_cases ha.out (by rw [hok, h1]; rfl)
          have h1I : ¬ (1 : Int) < (k : Int) := by omega
          replace h1 := hide h1
          clear ha hok htx
          go_wp2_with (first | (go_at_call 120; (with_reducible refine q.out.mono ?_); rintro e w2 ⟨rfl, hb2⟩; have m2 := (hb2.cell (p := ⟨w.heap.size, 2, none⟩) hgw).trans y2; have m3 := (hb2.cell (p := ⟨w.heap.size, 3, none⟩) hgw).trans y3; have m4 := (hb2.cell (p := ⟨b, off + (k - 1), none⟩) hg).trans p1; replace hb2 := hide hb2))
          go_roundw
          case rel => exact ⟨k + 1, by omega, by go_num, hnext, hb.trans (hb2.out.mono hgw)⟩
          case measure => simp [intOf]; omega
        · have h1I : (1 : Int) < (k : Int) := by omega
          cases hsl : (Op.bytesLess s.toList r.toList || s.toList == r.toList) with
          | false =>
            have hnext : Hid (∀ j, j < k + 1 → okL ls j = true) := lt_succ_cases ha.out (by rw [hok, hsl]; simp)
            have hs1 : Op.bytesLess s.toList r.toList = false := (Bool.or_eq_false_iff.1 hsl).1
            have hs2 : (s.toList == r.toList) = false := (Bool.or_eq_false_iff.1 hsl).2
            clear ha hok htx hsl h1
            go_wp2_with (first | (go_at_call 120; (with_reducible refine q.out.mono ?_); rintro e w2 ⟨rfl, hb2⟩; have m2 := (hb2.cell (p := ⟨w.heap.size, 2, none⟩) hgw).trans y2; have m3 := (hb2.cell (p := ⟨w.heap.size, 3, none⟩) hgw).trans y3; have m4 := (hb2.cell (p := ⟨b, off + (k - 1), none⟩) hg).trans p1; replace hb2 := hide hb2))
            go_roundw
            case rel => exact ⟨k + 1, by omega, by go_num, hnext, hb.trans (hb2.out.mono hgw)⟩
            case measure => simp [intOf]; omega
          | true =>
            have hv : Hid (ltsV (s0, s1, ls, es) = false) := by show _ = _; rw [hval2.out, allK_bad hlt (by rw [hok, hsl, decide_eq_false (show ¬ k ≤ 1 by omega)]; rfl)]; rfl
            clear ha hok htx h1 t2 t3 hss
            cases hs1 : Op.bytesLess s.toList r.toList with
            | true =>
              clear hsl
              go_wp2_with (first | (go_at_call 120; (with_reducible refine q.out.mono ?_); rintro e w2 ⟨rfl, hb2⟩; have m2 := (hb2.cell (p := ⟨w.heap.size, 2, none⟩) hgw).trans y2; have m3 := (hb2.cell (p := ⟨w.heap.size, 3, none⟩) hgw).trans y3; have m4 := (hb2.cell (p := ⟨b, off + (k - 1), none⟩) hg).trans p1; replace hb2 := hide hb2))
              go_ret
              exact ⟨ret_b (by rw [hv.out]), hwb.trans (hb2.out.mono hwb.size)⟩
            | false =>
              have hs2 : (s.toList == r.toList) = true := by rw [hs1] at hsl; exact hsl
              clear hsl
              go_wp2_with (first | (go_at_call 120; (with_reducible refine q.out.mono ?_); rintro e w2 ⟨rfl, hb2⟩; have m2 := (hb2.cell (p := ⟨w.heap.size, 2, none⟩) hgw).trans y2; have m3 := (hb2.cell (p := ⟨w.heap.size, 3, none⟩) hgw).trans y3; have m4 := (hb2.cell (p := ⟨b, off + (k - 1), none⟩) hg).trans p1; replace hb2 := hide hb2))
              go_ret
              exact ⟨ret_b (by rw [hv.out]), hwb.trans (hb2.out.mono hwb.size)⟩
      · have hk00 : k = 0 := by omega
        subst hk00
        have hok := okL_zero hx
        simp only [Nat.add_zero] at p0
        clear hx hlab
        by_cases htx : s = tauB
        · have hnext : Hid (∀ j, j < 0 + 1 → okL ls j = true) := lt_succ_cases ha.out (by rw [hok, decide_eq_true htx])
          have htt : (s.toList == [116, 97, 117]) = true := by rw [htx, tau_list]; rfl
          clear ha hok htx
          go_wp2_with (first | (go_at_call 120; (with_reducible refine q.out.mono ?_); rintro e w2 ⟨rfl, hb2⟩; have m2 := (hb2.cell (p := ⟨w.heap.size, 2, none⟩) hgw).trans y2; have m3 := (hb2.cell (p := ⟨w.heap.size, 3, none⟩) hgw).trans y3; replace hb2 := hide hb2))
          go_roundw
          case rel => exact ⟨0 + 1, by omega, by go_num, hnext, hb.trans (hb2.out.mono hgw)⟩
          case measure => simp [intOf]; omega
        · have hv : Hid (ltsV (s0, s1, ls, es) = false) := by show _ = _; rw [hval2.out, allK_bad hlt (by rw [hok, decide_eq_false htx])]; rfl
          have hne := tau_ne htx
          clear ha hok htx t2 t3 hss
          go_wp2_with (first | (go_at_call 120; (with_reducible refine q.out.mono ?_); rintro e w2 ⟨rfl, hb2⟩; have m2 := (hb2.cell (p := ⟨w.heap.size, 2, none⟩) hgw).trans y2; have m3 := (hb2.cell (p := ⟨w.heap.size, 3, none⟩) hgw).trans y3; replace hb2 := hide hb2))
          go_ret
          exact ⟨ret_b (by rw [hv.out]), hwb.trans (hb2.out.mono hwb.size)⟩
    · have hkn : n2 = k := by omega
      have hall : allK (okL ls) n2 = true := allK_good (by rw [hkn]; exact ha.out)
      have hval3 : Hid (ltsV (s0, s1, ls, es) = allK (okEd s0 (n2 : Int) es) n3) := by show _ = _; rw [hval2.out, hall]; rfl
      subst hkn
      clear hval2 hall ha t2 hss
      go_wp2_with fail
      go_loopw [67] (fun i wr2 => ∃ k2 : Nat, k2 ≤ n3 ∧ i = .int .i64 (k2 : Nat) ∧ Hid (∀ j, j < k2 → okEd s0 (n2 : Int) es j = true) ∧ Below (w.heap.size + 1) W0 wr2) (fun i _ => n3 - (intOf i).toNat)
      case atStart => exact ⟨0, Nat.zero_le _, rfl, fun j hj => absurd hj (by omega), hb⟩
      case round =>
        clear hb hwb y2 y3 hgw
        obtain ⟨k, hk, rfl, ha, hb⟩ := hrel
        have hwb := hW0.out.trans (hb.mono (Nat.le_succ _))
        have y0 := (hb.cell (p := ⟨w.heap.size, 0, none⟩) (Nat.lt_succ_self _)).trans c0
        have y1 := (hb.cell (p := ⟨w.heap.size, 1, none⟩) (Nat.lt_succ_self _)).trans c1
        have y2 := (hb.cell (p := ⟨w.heap.size, 2, none⟩) (Nat.lt_succ_self _)).trans c2
        have y3 := (hb.cell (p := ⟨w.heap.size, 3, none⟩) (Nat.lt_succ_self _)).trans c3
        have hgt := Nat.lt_of_lt_of_le hbt hb.size
        by_cases hlt : k < n3
        · obtain ⟨b, off, f, lb, tg, rfl, g1, g2, g3, hx, p0, p1, p2, -, -, -⟩ := SlE.get t3.out hlt
          replace p0 := (hwb.cell g3).trans p0
          replace p1 := (hwb.cell (p := ⟨b, off + k * 3 + 1, none⟩) g3).trans p1
          replace p2 := (hwb.cell (p := ⟨b, off + k * 3 + 2, none⟩) g3).trans p2
          have hg := Nat.lt_of_lt_of_le g3 hwb.size
          have hbox : Below wr.heap.size wr (wr.alloc (.cells #[.int .i64 f, .int .i64 lb, .int .i64 tg] 84)) := (Below.refl _ _).alloc (Nat.le_refl _) _
          have kE := heap_alloc_new wr (.cells #[.int .i64 f, .int .i64 lb, .int .i64 tg] 84)
          have x0 := (hbox.cell (p := ⟨w.heap.size, 0, none⟩) hgt).trans y0
          have x1 := (hbox.cell (p := ⟨w.heap.size, 1, none⟩) hgt).trans y1
          have x2 := (hbox.cell (p := ⟨w.heap.size, 2, none⟩) hgt).trans y2
          have x3 := (hbox.cell (p := ⟨w.heap.size, 3, none⟩) hgt).trans y3
          have z0' : (wr.alloc (.cells #[.int .i64 f, .int .i64 lb, .int .i64 tg] 84)).cell? ⟨wr.heap.size, 0, none⟩ = some (.int .i64 f) := (cell_of_row _ _ 0 _ _ (0, 0) kE).trans rfl
          have z1' : (wr.alloc (.cells #[.int .i64 f, .int .i64 lb, .int .i64 tg] 84)).cell? ⟨wr.heap.size, 1, none⟩ = some (.int .i64 lb) := (cell_of_row _ _ 1 _ _ (0, 0) kE).trans rfl
          have z2' : (wr.alloc (.cells #[.int .i64 f, .int .i64 lb, .int .i64 tg] 84)).cell? ⟨wr.heap.size, 2, none⟩ = some (.int .i64 tg) := (cell_of_row _ _ 2 _ _ (0, 0) kE).trans rfl
          have hprev : 0 < k → ∃ r1 r2 r3, es[k - 1]? = some (r1, r2, r3) ∧ (wr.alloc (.cells #[.int .i64 f, .int .i64 lb, .int .i64 tg] 84)).cell? ⟨b, off + (k - 1) * 3, none⟩ = some (.int .i64 r1) ∧ (wr.alloc (.cells #[.int .i64 f, .int .i64 lb, .int .i64 tg] 84)).cell? ⟨b, off + (k - 1) * 3 + 1, none⟩ = some (.int .i64 r2) ∧ (wr.alloc (.cells #[.int .i64 f, .int .i64 lb, .int .i64 tg] 84)).cell? ⟨b, off + (k - 1) * 3 + 2, none⟩ = some (.int .i64 r3) := fun hk0 => by
            obtain ⟨b', off', r1, r2, r3, eA, -, -, -, hy, u0, u1, u2, -, -, -⟩ := SlE.get t3.out (show k - 1 < n3 by omega)
            cases eA
            exact ⟨r1, r2, r3, hy, (hbox.cell hg).trans ((hwb.cell g3).trans u0), (hbox.cell (p := ⟨b, off + (k - 1) * 3 + 1, none⟩) hg).trans ((hwb.cell (p := ⟨b, off + (k - 1) * 3 + 1, none⟩) g3).trans u1), (hbox.cell (p := ⟨b, off + (k - 1) * 3 + 2, none⟩) hg).trans ((hwb.cell (p := ⟨b, off + (k - 1) * 3 + 2, none⟩) g3).trans u2)⟩
          replace hprev := hide hprev
          have hbw := hide (hwb.trans (hbox.mono hwb.size))
          have hbB := hide (hb.trans (hbox.mono hgt))
          have hbBs : Hid (w.heap.size + 1 ≤ (wr.alloc (.cells #[.int .i64 f, .int .i64 lb, .int .i64 tg] 84)).heap.size) := by show _ ≤ _; rw [World.size_alloc]; omega
          have hI0 : (0 : Int) ≤ (k : Int) := by omega
          have hI1 : (k : Int) < (n3 : Int) := by omega
          clear t3 hg g1 g2 g3 y0 y1 y2 hwb hb hbox kE hgt
          go_wp2_with fail
          clear p0 p1 p2 y3
          generalize hWE : (wr.alloc (.cells #[.int .i64 f, .int .i64 lb, .int .i64 tg] 84)) = WE at *
          generalize hbE : wr.heap.size = bE at *
          clear hWE hbE
          have r0 : ∀ d os, Calls Tryz.prog 119 #[.agg #[.int .i64 s0, .int .i64 s1, .slice A2 n2 k2, .slice (some ⟨b, off, none⟩) n3 k3], .int .i64 f] (grow (redrawn WE d) os) (fun e w'' => e = .returned (.bool (inB f 0 (s0 - 1))) ∧ ∃ p : Regrown, w'' = grow (redrawn WE p.d) p.os) := fun d os => Calls.regrown_of (isState_calls s0 s1 f _ _ _ hst1 hst2)
          have r1 : ∀ d os, Calls Tryz.prog 119 #[.agg #[.int .i64 s0, .int .i64 s1, .slice A2 n2 k2, .slice (some ⟨b, off, none⟩) n3 k3], .int .i64 tg] (grow (redrawn WE d) os) (fun e w'' => e = .returned (.bool (inB tg 0 (s0 - 1))) ∧ ∃ p : Regrown, w'' = grow (redrawn WE p.d) p.os) := fun d os => Calls.regrown_of (isState_calls s0 s1 tg _ _ _ hst1 hst2)
          have r2 := same_regrown (w := WE) (fun W => index_calls lb n2 hls W)
          have f0 := fun d os => cell_regrown x0 d os
          have f1 := fun d os => cell_regrown x1 d os
          have f2 := fun d os => cell_regrown x2 d os
          have f3 := fun d os => cell_regrown x3 d os
          have u0 := fun d os => cell_regrown z0' d os
          have u1 := fun d os => cell_regrown z1' d os
          have u2 := fun d os => cell_regrown z2' d os
          cases w0 : inB f 0 (s0 - 1) with
          | false =>
            have hv : Hid (ltsV (s0, s1, ls, es) = false) := by show _ = _; rw [hval3.out]; exact allK_bad hlt (okE_bad hx (by rw [w0]; rfl))
            simp only [w0] at r0
            replace r0 := hide r0
            clear r1 r2 w0 hx hprev ha
            refine wp_region_quiet_below (by kernel_rfl) (by kernel_rfl) ?_
            repeat (go_big_quiet_step (first | (with_reducible exact r0.out _ _)))
            refine wpQuiet_nil ?_
            intro _ hw'
            obtain ⟨⟨dq, osq⟩, hw''⟩ := hw'
            subst hw''
            have hbq := below_regrown WE dq osq
            generalize grow (redrawn WE dq) osq = wq at *
            go_wp2
            go_ret
            exact ⟨ret_b (by rw [hv.out]), hbw.out.trans (hbq.mono hbw.out.size)⟩
          | true =>
          simp only [w0] at r0
          replace r0 := hide r0
          cases w1 : inB tg 0 (s0 - 1) with
          | false =>
            have hv : Hid (ltsV (s0, s1, ls, es) = false) := by show _ = _; rw [hval3.out]; exact allK_bad hlt (okE_bad hx (by rw [w0, w1]; rfl))
            simp only [w1] at r1
            replace r1 := hide r1
            clear r2 w0 w1 hx hprev ha
            refine wp_region_quiet_below (by kernel_rfl) (by kernel_rfl) ?_
            repeat (go_big_quiet_step (first | (with_reducible exact r0.out _ _) | (with_reducible exact r1.out _ _)))
            refine wpQuiet_nil ?_
            intro _ hw'
            obtain ⟨⟨dq, osq⟩, hw''⟩ := hw'
            subst hw''
            have hbq := below_regrown WE dq osq
            generalize grow (redrawn WE dq) osq = wq at *
            go_wp2
            go_ret
            exact ⟨ret_b (by rw [hv.out]), hbw.out.trans (hbq.mono hbw.out.size)⟩
          | true =>
          simp only [w1] at r1
          replace r1 := hide r1
          cases w2 : inB lb 0 ((n2 : Int) - 1) with
          | false =>
            have hv : Hid (ltsV (s0, s1, ls, es) = false) := by show _ = _; rw [hval3.out]; exact allK_bad hlt (okE_bad hx (by rw [w0, w1, w2]; rfl))
            simp only [w2] at r2
            replace r2 := hide r2
            clear w0 w1 w2 hx hprev ha
            refine wp_region_quiet_below (by kernel_rfl) (by kernel_rfl) ?_
            repeat (go_big_quiet_step (first | (with_reducible exact r0.out _ _) | (with_reducible exact r1.out _ _) | (with_reducible exact r2.out _ _)))
            refine wpQuiet_nil ?_
            intro _ hw'
            obtain ⟨⟨dq, osq⟩, hw''⟩ := hw'
            subst hw''
            have hbq := below_regrown WE dq osq
            generalize grow (redrawn WE dq) osq = wq at *
            go_wp2
            go_ret
            exact ⟨ret_b (by rw [hv.out]), hbw.out.trans (hbq.mono hbw.out.size)⟩
          | true =>
          simp only [w2] at r2
          replace r2 := hide r2
          by_cases hk0 : 0 < k
          · obtain ⟨q1, q2, q3, hy, v0, v1, v2⟩ := hprev.out hk0
            have hok := okE_at (st := s0) (m := (n2 : Int)) hx hk0 hy
            rw [w0, w1, w2] at hok
            have hlI : (0 : Int) < (k : Int) := by omega
            have hlJ : decide ((0 : Int) < (k : Int)) = true := decide_eq_true hlI
            have hI4 : (1 : Int) ≤ (k : Int) := by omega
            have hI3 : (k : Int) - 1 < (n3 : Int) := by omega
            have hI5 : ((k : Int) - 1).toNat = k - 1 := by omega
            have g0 := fun d os => cell_regrown v0 d os
            have g1 := fun d os => cell_regrown v1 d os
            have g2 := fun d os => cell_regrown v2 d os
            have r3 : ∀ d os, Calls Tryz.prog 122 #[.agg #[.int .i64 q1, .int .i64 q2, .int .i64 q3], .agg #[.int .i64 f, .int .i64 lb, .int .i64 tg]] (grow (redrawn WE d) os) (fun e w'' => e = .returned (.int .i64 (cmpE (q1, q2, q3) (f, lb, tg))) ∧ ∃ p : Regrown, w'' = grow (redrawn WE p.d) p.os) := fun d os => Calls.regrown_of (compareEdges_calls q1 q2 q3 f lb tg _)
            have hce := cmpE_less (q1, q2, q3) (f, lb, tg)
            generalize cmpE (q1, q2, q3) (f, lb, tg) = ce at *
            replace r3 := hide r3
            cases hls' : edLess (q1, q2, q3) (f, lb, tg) with
            | true =>
              rw [hls'] at hce
              replace hce : decide (0 ≤ ce) = false := hce
              have hce2 : ¬ (0 : Int) ≤ ce := of_decide_eq_false hce
              have hnext : Hid (∀ j, j < k + 1 → okEd s0 (n2 : Int) es j = true) := lt_succ_cases ha.out (by rw [hok, hls']; rfl)
              clear w0 w1 w2 hx hprev ha hok hy hls'
              refine wp_region_quiet_below (by kernel_rfl) (by kernel_rfl) ?_
              repeat (go_big_quiet_step (first | (with_reducible exact r0.out _ _) | (with_reducible exact r1.out _ _) | (with_reducible exact r2.out _ _) | (with_reducible exact r3.out _ _)))
              refine wpQuiet_nil ?_
              intro _ hw'
              obtain ⟨⟨dq, osq⟩, hw''⟩ := hw'
              subst hw''
              have hbq := below_regrown WE dq osq
              generalize grow (redrawn WE dq) osq = wq at *
              go_wp2
              go_roundw
              case rel => exact ⟨k + 1, by omega, by go_num, hnext, hbB.out.trans (hbq.mono hbBs.out)⟩
              case measure => simp [intOf]; omega
            | false =>
              rw [hls'] at hce
              replace hce : decide (0 ≤ ce) = true := hce
              have hce2 : (0 : Int) ≤ ce := of_decide_eq_true hce
              have hv : Hid (ltsV (s0, s1, ls, es) = false) := by show _ = _; rw [hval3.out]; exact allK_bad hlt (by rw [hok, hls']; rfl)
              clear w0 w1 w2 hx hprev ha hok hy hls'
              refine wp_region_quiet_below (by kernel_rfl) (by kernel_rfl) ?_
              repeat (go_big_quiet_step (first | (with_reducible exact r0.out _ _) | (with_reducible exact r1.out _ _) | (with_reducible exact r2.out _ _) | (with_reducible exact r3.out _ _)))
              refine wpQuiet_nil ?_
              intro _ hw'
              obtain ⟨⟨dq, osq⟩, hw''⟩ := hw'
              subst hw''
              have hbq := below_regrown WE dq osq
              generalize grow (redrawn WE dq) osq = wq at *
              go_wp2
              go_ret
              exact ⟨ret_b (by rw [hv.out]), hbw.out.trans (hbq.mono hbw.out.size)⟩
          · have hk00 : k = 0 := by omega
            subst hk00
            have hok := okE_zero (st := s0) (m := (n2 : Int)) hx
            rw [w0, w1, w2] at hok
            have hnext : Hid (∀ j, j < 0 + 1 → okEd s0 (n2 : Int) es j = true) := lt_succ_cases ha.out (by rw [hok]; rfl)
            clear w0 w1 w2 hx hprev ha hok
            refine wp_region_quiet_below (by kernel_rfl) (by kernel_rfl) ?_
            repeat (go_big_quiet_step (first | (with_reducible exact r0.out _ _) | (with_reducible exact r1.out _ _) | (with_reducible exact r2.out _ _)))
            refine wpQuiet_nil ?_
            intro _ hw'
            obtain ⟨⟨dq, osq⟩, hw''⟩ := hw'
            subst hw''
            have hbq := below_regrown WE dq osq
            generalize grow (redrawn WE dq) osq = wq at *
            go_wp2
            go_roundw
            case rel => exact ⟨0 + 1, by omega, by go_num, hnext, hbB.out.trans (hbq.mono hbBs.out)⟩
            case measure => simp [intOf]; omega
        · have hkn : k = n3 := by omega
          subst hkn
          have hv : Hid (ltsV (s0, s1, ls, es) = true) := by show _ = _; rw [hval3.out]; exact allK_good ha.out
          go_wp2_with fail
          go_ret
          exact ⟨ret_b (by rw [hv.out]), hwb⟩

end Go.Proofs.YtnhomkmfbngmgaaGreatDoor

namespace Go.Proofs.YtnhomkmfbngmgaaGreatDoor
open Go.ChangeShapes Go.WideShapes Go.ChangeAt Go.RowKit Go.Sort
set_option linter.unusedVariables false

set_option maxRecDepth 100000 in
theorem indexFuncEd_calls (F : FuncId) (caps : Array Value) (G : Ed → Bool) (A : Option Addr) (n c : Nat) (l : List Ed) (w : World) (lo hi : Nat) (h : SlE w lo hi A n l) (hn : n ≤ 1048576)
    (hF : ∀ (v : Value) (W : World), Sem.run Tryz.prog (callFunc F (#[v] ++ caps)) W = .ok (.enter F (#[v] ++ caps)) W)
    (hcl : ∀ (x y z : Int) (W : World), (x, y, z) ∈ l → Below w.heap.size w W → Calls Tryz.prog F (#[.agg #[.int .i64 x, .int .i64 y, .int .i64 z]] ++ caps) W (Says (G (x, y, z)) W)) :
    Calls Tryz.prog 234 #[.slice A n c, .func (.func F) #[] caps] w fun e w' => ∃ i : Int, e = .returned (.int .i64 i) ∧ decide (0 ≤ i) = l.any G ∧ Below w.heap.size w w' := by
  have hlen := hide h.len
  replace hcl := hide hcl
  go_enter Tryz.func234, Tryz.ntmps234
  go_wp2
  go_loopw [8] (fun i wr => ∃ k : Nat, k ≤ n ∧ i = .int .i64 k ∧ Below w.heap.size w wr ∧ Hid ((l.take k).any G = false)) (fun i _ => n - (intOf i).toNat)
  case atStart => exact ⟨0, Nat.zero_le _, rfl, Below.refl _ _, rfl⟩
  case round =>
    obtain ⟨k, hk, rfl, hb, ha⟩ := hrel
    by_cases hlt : k < n
    · obtain ⟨b, off, x, y, z, rfl, g1, g2, g3, hx, c0, c1, c2, -, -, -⟩ := SlE.get h hlt
      replace c0 := (hb.cell (p := ⟨b, off + k * 3, none⟩) g3).trans c0
      replace c1 := (hb.cell (p := ⟨b, off + k * 3 + 1, none⟩) g3).trans c1
      replace c2 := (hb.cell (p := ⟨b, off + k * 3 + 2, none⟩) g3).trans c2
      have hc := hcl.out x y z wr (List.mem_of_getElem? hx) hb
      replace hx := hide hx
      clear h hcl
      by_cases hg : G (x, y, z) = true
      · rw [hg] at hc
        replace hc := hide hc
        have hy := hide (any_hit hx.out hg)
        clear hg
        go_wp2_with fail
        refine hc.out.mono ?_
        rintro e w1 ⟨rfl, hb1⟩
        go_wp2_with fail
        go_ret
        exact ⟨_, rfl, by rw [hy.out]; simp, hb.trans (hb1.mono hb.size)⟩
      · replace hg := Bool.eq_false_iff.2 hg
        rw [hg] at hc
        replace hc := hide hc
        have hy := hide (any_take_succ ha.out hx.out hg)
        clear hg
        go_wp2_with fail
        refine hc.out.mono ?_
        rintro e w1 ⟨rfl, hb1⟩
        go_wp2_with fail
        go_roundw
        case rel => exact ⟨k + 1, by omega, by go_num, hb.trans (hb1.mono hb.size), hy⟩
        case measure => simp [intOf]; omega
    · have hkn : k = n := by omega
      subst hkn
      clear hcl
      go_wp2
      go_ret
      have hy := ha.out
      rw [List.take_of_length_le (by rw [hlen.out]; exact Nat.le_refl _)] at hy
      exact ⟨_, rfl, by rw [hy]; decide, hb⟩

theorem containsFuncEd_calls (F : FuncId) (caps : Array Value) (G : Ed → Bool) (A : Option Addr) (n c : Nat) (l : List Ed) (w : World) (lo hi : Nat) (h : SlE w lo hi A n l) (hn : n ≤ 1048576)
    (hF : ∀ (v : Value) (W : World), Sem.run Tryz.prog (callFunc F (#[v] ++ caps)) W = .ok (.enter F (#[v] ++ caps)) W)
    (hcl : ∀ (x y z : Int) (W : World), (x, y, z) ∈ l → Below w.heap.size w W → Calls Tryz.prog F (#[.agg #[.int .i64 x, .int .i64 y, .int .i64 z]] ++ caps) W (Says (G (x, y, z)) W)) :
    Calls Tryz.prog 153 #[.slice A n c, .func (.func F) #[] caps] w (Says (l.any G) w) := by
  have q := hide (indexFuncEd_calls F caps G A n c l w lo hi h hn hF hcl)
  clear h hF hcl
  go_enter Tryz.func153, Tryz.ntmps153
  go_wp2_with fail
  refine q.out.mono ?_
  rintro e w1 ⟨i, rfl, hi, hb⟩
  replace hi := hide hi
  go_wp2_with fail
  go_ret
  exact ⟨ret_b hi.out.symm, hb⟩


def detV (d : DL) : Bool := ltsV d && detB d.2.2.2
set_option maxRecDepth 100000 in
set_option maxHeartbeats 1600000 in
theorem isDet_calls (x : CL) (d : DL) (w : World) (lo hi : Nat) (h : ReadL w lo hi x d) (htot : totL d ≤ 1048576) (he : Env w) :
    Calls Tryz.prog 150 #[.agg #[.int .i64 x.1, .int .i64 x.2.1, x.2.2.1, x.2.2.2]] w fun e w' => e = .returned (.bool (detV d)) ∧ Below w.heap.size w w' := by
  have hW0b : Below w.heap.size w (w.alloc (.cells #[.int .i64 x.1, .int .i64 x.2.1, x.2.2.1, x.2.2.2] 27)) := (Below.refl _ _).alloc (Nat.le_refl _) _
  have qv := validLts_calls x d _ lo hi (h.below hW0b (.inr (Nat.le_refl _))) htot (he.below hW0b (Nat.le_refl _))
  obtain ⟨s0, s1, v2, v3⟩ := x
  obtain ⟨st, ini, ls, es⟩ := d
  obtain ⟨e0, e1, ⟨A2, n2, k2, e2, hn2, hs2, t2⟩, ⟨A3, n3, k3, e3, hn3, t3⟩⟩ := h
  dsimp only at *
  subst e0 e1 e2 e3
  have l3 := t3.len
  have hes : n3 ≤ 1048576 := by rw [← l3]; exact Nat.le_trans (totL_edg (s0, s1, ls, es)) htot
  have hval : Hid (detV (s0, s1, ls, es) = (ltsV (s0, s1, ls, es) && allK (okDet es) n3)) := by show _ = _; rw [← l3]; rfl
  replace l3 := hide l3
  replace t3 := hide t3
  have hW0 := hide hW0b
  have kE := heap_alloc_new w (.cells #[.int .i64 s0, .int .i64 s1, .slice A2 n2 k2, .slice A3 n3 k3] 27)
  have hbt : w.heap.size < (w.alloc (.cells #[.int .i64 s0, .int .i64 s1, .slice A2 n2 k2, .slice A3 n3 k3] 27)).heap.size := by rw [World.size_alloc]; omega
  clear htot hs2 hn2 hn3 he t2 hW0b
  go_enter Tryz.func150, Tryz.ntmps150
  go_upto_region 1 with fail
  have c0 : (w.alloc (.cells #[.int .i64 s0, .int .i64 s1, .slice A2 n2 k2, .slice A3 n3 k3] 27)).cell? ⟨w.heap.size, 0, none⟩ = some (.int .i64 s0) := (cell_of_row _ _ 0 _ _ (0, 0) kE).trans rfl
  have c1 : (w.alloc (.cells #[.int .i64 s0, .int .i64 s1, .slice A2 n2 k2, .slice A3 n3 k3] 27)).cell? ⟨w.heap.size, 1, none⟩ = some (.int .i64 s1) := (cell_of_row _ _ 1 _ _ (0, 0) kE).trans rfl
  have c2 : (w.alloc (.cells #[.int .i64 s0, .int .i64 s1, .slice A2 n2 k2, .slice A3 n3 k3] 27)).cell? ⟨w.heap.size, 2, none⟩ = some (.slice A2 n2 k2) := (cell_of_row _ _ 2 _ _ (0, 0) kE).trans rfl
  have c3 : (w.alloc (.cells #[.int .i64 s0, .int .i64 s1, .slice A2 n2 k2, .slice A3 n3 k3] 27)).cell? ⟨w.heap.size, 3, none⟩ = some (.slice A3 n3 k3) := (cell_of_row _ _ 3 _ _ (0, 0) kE).trans rfl
  clear kE
  generalize hWW : (w.alloc (.cells #[.int .i64 s0, .int .i64 s1, .slice A2 n2 k2, .slice A3 n3 k3] 27)) = W0 at *
  clear hWW
  cases hl : ltsV (s0, s1, ls, es) with
  | false =>
    rw [hl] at qv
    have hv : Hid (detV (s0, s1, ls, es) = false) := by show _ = _; rw [hval.out, hl]; rfl
    replace qv := hide qv
    clear hl hval
    go_wp2_with fail
    refine qv.out.mono ?_
    rintro e w1 ⟨rfl, hb1⟩
    replace hb1 := hide hb1
    go_wp2_with fail
    go_ret
    exact ⟨ret_b (by rw [hv.out]), hW0.out.trans (hb1.out.mono (Nat.le_of_lt hbt))⟩
  | true =>
  rw [hl] at qv
  have hval2 : Hid (detV (s0, s1, ls, es) = allK (okDet es) n3) := by show _ = _; rw [hval.out, hl]; rfl
  replace qv := hide qv
  clear hl hval
  go_wp2_with fail
  refine qv.out.mono ?_
  rintro e w1 ⟨rfl, hb1⟩
  have a3 := (hb1.cell (p := ⟨w.heap.size, 3, none⟩) hbt).trans c3
  have hbt1 : w.heap.size + 1 ≤ W0.heap.size := hbt
  have hb1' := hide (hb1.mono hbt1)
  clear hb1
  go_wp2_with fail
  go_loopw [11] (fun i wr => ∃ k : Nat, k ≤ n3 ∧ i = .int .i64 (k : Nat) ∧ Hid (∀ j, j < k → okDet es j = true) ∧ Below (w.heap.size + 1) W0 wr) (fun i _ => n3 - (intOf i).toNat)
  case atStart => exact ⟨0, Nat.zero_le _, rfl, fun j hj => absurd hj (by omega), hb1'.out⟩
  case round =>
    clear a3
    obtain ⟨k, hk, rfl, ha, hb⟩ := hrel
    have hwb := hW0.out.trans (hb.mono (Nat.le_succ _))
    have y3 := (hb.cell (p := ⟨w.heap.size, 3, none⟩) (Nat.lt_succ_self _)).trans c3
    have hgt := Nat.lt_of_lt_of_le hbt hb.size
    by_cases hlt : k < n3
    · obtain ⟨b, off, f, lb, tg, rfl, g1, g2, g3, hx, p0, p1, p2, -, -, -⟩ := SlE.get t3.out hlt
      replace p0 := (hwb.cell g3).trans p0
      replace p1 := (hwb.cell (p := ⟨b, off + k * 3 + 1, none⟩) g3).trans p1
      replace p2 := (hwb.cell (p := ⟨b, off + k * 3 + 2, none⟩) g3).trans p2
      have hg := Nat.lt_of_lt_of_le g3 hwb.size
      have hbox : Below wr.heap.size wr (wr.alloc (.cells #[.int .i64 f, .int .i64 lb, .int .i64 tg] 84)) := (Below.refl _ _).alloc (Nat.le_refl _) _
      have kE := heap_alloc_new wr (.cells #[.int .i64 f, .int .i64 lb, .int .i64 tg] 84)
      have x3 := (hbox.cell (p := ⟨w.heap.size, 3, none⟩) hgt).trans y3
      have z0' : (wr.alloc (.cells #[.int .i64 f, .int .i64 lb, .int .i64 tg] 84)).cell? ⟨wr.heap.size, 0, none⟩ = some (.int .i64 f) := (cell_of_row _ _ 0 _ _ (0, 0) kE).trans rfl
      have z1' : (wr.alloc (.cells #[.int .i64 f, .int .i64 lb, .int .i64 tg] 84)).cell? ⟨wr.heap.size, 1, none⟩ = some (.int .i64 lb) := (cell_of_row _ _ 1 _ _ (0, 0) kE).trans rfl
      have hprev : 0 < k → ∃ r1 r2 r3, es[k - 1]? = some (r1, r2, r3) ∧ (wr.alloc (.cells #[.int .i64 f, .int .i64 lb, .int .i64 tg] 84)).cell? ⟨b, off + (k - 1) * 3, none⟩ = some (.int .i64 r1) ∧ (wr.alloc (.cells #[.int .i64 f, .int .i64 lb, .int .i64 tg] 84)).cell? ⟨b, off + (k - 1) * 3 + 1, none⟩ = some (.int .i64 r2) := fun hk0 => by
        obtain ⟨b', off', r1, r2, r3, eA, -, -, -, hy, u0, u1, u2, -, -, -⟩ := SlE.get t3.out (show k - 1 < n3 by omega)
        cases eA
        exact ⟨r1, r2, r3, hy, (hbox.cell hg).trans ((hwb.cell g3).trans u0), (hbox.cell (p := ⟨b, off + (k - 1) * 3 + 1, none⟩) hg).trans ((hwb.cell (p := ⟨b, off + (k - 1) * 3 + 1, none⟩) g3).trans u1)⟩
      replace hprev := hide hprev
      have hbw := hide (hwb.trans (hbox.mono hwb.size))
      have hbB := hide (hb.trans (hbox.mono hgt))
      have hbBs : Hid (w.heap.size + 1 ≤ (wr.alloc (.cells #[.int .i64 f, .int .i64 lb, .int .i64 tg] 84)).heap.size) := by show _ ≤ _; rw [World.size_alloc]; omega
      have hI0 : (0 : Int) ≤ (k : Int) := by omega
      have hI1 : (k : Int) < (n3 : Int) := by omega
      clear t3 hg g1 g2 g3 hwb hb hbox kE hgt
      go_wp2_with fail
      clear p0 p1 p2 y3
      generalize hWE : (wr.alloc (.cells #[.int .i64 f, .int .i64 lb, .int .i64 tg] 84)) = WE at *
      generalize hbE : wr.heap.size = bE at *
      clear hWE hbE
      have f3 := fun d os => cell_regrown x3 d os
      have u0 := fun d os => cell_regrown z0' d os
      have u1 := fun d os => cell_regrown z1' d os
      by_cases hlb : lb = 0
      · have hv : Hid (detV (s0, s1, ls, es) = false) := by show _ = _; rw [hval2.out]; exact allK_bad hlt (okD_bad hx hlb)
        subst hlb
        clear hx ha hprev
        refine wp_region_quiet_below (by kernel_rfl) (by kernel_rfl) ?_
        repeat (go_big_quiet_step (fail))
        refine wpQuiet_nil ?_
        intro _ hw'
        obtain ⟨⟨dq, osq⟩, hw''⟩ := hw'
        subst hw''
        have hbq := below_regrown WE dq osq
        generalize grow (redrawn WE dq) osq = wq at *
        go_wp2
        go_ret
        exact ⟨ret_b (by rw [hv.out]), hbw.out.trans (hbq.mono hbw.out.size)⟩
      have hl0 : (lb == 0) = false := by rw [beq_eq_false_iff_ne]; exact hlb
      by_cases hk0 : 0 < k
      · obtain ⟨r1, r2, r3, hy, m0, m1⟩ := hprev.out hk0
        have v0 := fun d os => cell_regrown m0 d os
        have v1 := fun d os => cell_regrown m1 d os
        have hok := okD_at hx hk0 hy
        rw [decide_eq_false hlb] at hok
        have hlI : (0 : Int) < (k : Int) := by omega
        have hlJ : decide ((0 : Int) < (k : Int)) = true := decide_eq_true hlI
        have hI4 : (1 : Int) ≤ (k : Int) := by omega
        have hI3 : (k : Int) - 1 < (n3 : Int) := by omega
        have hI5 : ((k : Int) - 1).toNat = k - 1 := by omega
        clear hx hy hlb hprev
        by_cases hf : r1 = f
        · by_cases hr : r2 = lb
          · have hv : Hid (detV (s0, s1, ls, es) = false) := by show _ = _; rw [hval2.out]; exact allK_bad hlt (by rw [hok, decide_eq_true hf, decide_eq_true hr]; rfl)
            subst hf hr
            clear hok ha
            refine wp_region_quiet_below (by kernel_rfl) (by kernel_rfl) ?_
            repeat (go_big_quiet_step (fail))
            refine wpQuiet_nil ?_
            intro _ hw'
            obtain ⟨⟨dq, osq⟩, hw''⟩ := hw'
            subst hw''
            have hbq := below_regrown WE dq osq
            generalize grow (redrawn WE dq) osq = wq at *
            go_wp2
            go_ret
            exact ⟨ret_b (by rw [hv.out]), hbw.out.trans (hbq.mono hbw.out.size)⟩
          · have hnext : Hid (∀ j, j < k + 1 → okDet es j = true) := lt_succ_cases ha.out (by rw [hok, decide_eq_false hr]; simp)
            have hrb : (r2 == lb) = false := by rw [beq_eq_false_iff_ne]; exact hr
            subst hf
            clear hok ha hr
            refine wp_region_quiet_below (by kernel_rfl) (by kernel_rfl) ?_
            repeat (go_big_quiet_step (fail))
            refine wpQuiet_nil ?_
            intro _ hw'
            obtain ⟨⟨dq, osq⟩, hw''⟩ := hw'
            subst hw''
            have hbq := below_regrown WE dq osq
            generalize grow (redrawn WE dq) osq = wq at *
            go_wp2
            go_roundw
            case rel => exact ⟨k + 1, by omega, by go_num, hnext, hbB.out.trans (hbq.mono hbBs.out)⟩
            case measure => simp [intOf]; omega
        · have hnext : Hid (∀ j, j < k + 1 → okDet es j = true) := lt_succ_cases ha.out (by rw [hok, decide_eq_false hf]; rfl)
          have hfb : (r1 == f) = false := by rw [beq_eq_false_iff_ne]; exact hf
          clear hok ha hf
          refine wp_region_quiet_below (by kernel_rfl) (by kernel_rfl) ?_
          repeat (go_big_quiet_step (fail))
          refine wpQuiet_nil ?_
          intro _ hw'
          obtain ⟨⟨dq, osq⟩, hw''⟩ := hw'
          subst hw''
          have hbq := below_regrown WE dq osq
          generalize grow (redrawn WE dq) osq = wq at *
          go_wp2
          go_roundw
          case rel => exact ⟨k + 1, by omega, by go_num, hnext, hbB.out.trans (hbq.mono hbBs.out)⟩
          case measure => simp [intOf]; omega
      · have hk00 : k = 0 := by omega
        subst hk00
        have hnext : Hid (∀ j, j < 0 + 1 → okDet es j = true) := lt_succ_cases ha.out (by rw [okD_zero hx, decide_eq_false hlb]; rfl)
        clear hx ha hlb hprev
        refine wp_region_quiet_below (by kernel_rfl) (by kernel_rfl) ?_
        repeat (go_big_quiet_step (fail))
        refine wpQuiet_nil ?_
        intro _ hw'
        obtain ⟨⟨dq, osq⟩, hw''⟩ := hw'
        subst hw''
        have hbq := below_regrown WE dq osq
        generalize grow (redrawn WE dq) osq = wq at *
        go_wp2
        go_roundw
        case rel => exact ⟨0 + 1, by omega, by go_num, hnext, hbB.out.trans (hbq.mono hbBs.out)⟩
        case measure => simp [intOf]; omega
    · have hkn : k = n3 := by omega
      subst hkn
      have hv : Hid (detV (s0, s1, ls, es) = true) := by show _ = _; rw [hval2.out]; exact allK_good ha.out
      go_wp2_with fail
      go_ret
      exact ⟨ret_b (by rw [hv.out]), hwb⟩

end Go.Proofs.YtnhomkmfbngmgaaGreatDoor

namespace Go.Proofs.YtnhomkmfbngmgaaGreatDoor
open Go.ChangeShapes Go.WideShapes Go.ChangeAt Go.RowKit Go.Sort
set_option linter.unusedVariables false

theorem pair_of_next {α : Type} (R : α → α → Prop) (tr : ∀ a b c, R a b → R b c → R a c) : ∀ (l : List α), (∀ k x y, l[k]? = some x → l[k + 1]? = some y → R x y) → l.Pairwise R
  | [], _ => List.Pairwise.nil
  | [a], _ => by simp
  | a :: b :: l, h => by
    have ih := pair_of_next R tr (b :: l) fun k x y hx hy => h (k + 1) x y (by simpa using hx) (by simpa using hy)
    have hab : R a b := h 0 a b rfl rfl
    refine List.pairwise_cons.2 ⟨fun c hc => ?_, ih⟩
    rcases List.mem_cons.1 hc with rfl | hc
    · exact hab
    · exact tr _ _ _ hab ((List.pairwise_cons.1 ih).1 c hc)
theorem bytesLess_irrefl : ∀ a : List UInt8, Op.bytesLess a a = false
  | [] => rfl
  | x :: a => by
    have : ¬ x < x := by rw [UInt8.lt_iff_toNat_lt]; omega
    simp [Op.bytesLess, this, bytesLess_irrefl a]
theorem bytesLess_trans : ∀ {a b c : List UInt8}, Op.bytesLess a b = true → Op.bytesLess b c = true → Op.bytesLess a c = true
  | [], [], _, h, _ => by simp [Op.bytesLess] at h
  | [], _ :: _, [], _, h => by simp [Op.bytesLess] at h
  | [], _ :: _, _ :: _, _, _ => by simp [Op.bytesLess]
  | _ :: _, [], _, h, _ => by simp [Op.bytesLess] at h
  | _ :: _, _ :: _, [], _, h => by simp [Op.bytesLess] at h
  | x :: a, y :: b, z :: c, h, g => by
    simp only [Op.bytesLess, Bool.or_eq_true, decide_eq_true_eq, Bool.and_eq_true, beq_iff_eq] at h g ⊢
    rw [UInt8.lt_iff_toNat_lt] at h g ⊢
    rcases h with h | ⟨rfl, h⟩
    · rcases g with g | ⟨rfl, g⟩
      · exact .inl (by omega)
      · exact .inl h
    · rcases g with g | ⟨rfl, g⟩
      · exact .inl g
      · exact .inr ⟨rfl, bytesLess_trans h g⟩

/-- The list of labels has none twice. -/
theorem labs_uniq {ls : List ByteArray} (h : namesB ls = true) {i j : Nat} {x : ByteArray} (hi : ls[i]? = some x) (hj : ls[j]? = some x) : i = j := by
  unfold namesB at h
  rw [Bool.and_eq_true] at h
  have hall : ∀ k, k < ls.length → okL ls k = true := fun k hk => allK_get h.2 hk
  have hlt : ∀ {k : Nat} {y : ByteArray}, ls[k]? = some y → k < ls.length := fun hk => (List.getElem?_eq_some_iff.1 hk).1
  have tau : ∀ {k : Nat} {y : ByteArray}, ls[k]? = some y → (y = tauB ↔ k = 0) := by
    intro k y hy
    have hk := hall k (hlt hy)
    by_cases h0 : k = 0
    · subst h0
      rw [okL_zero hy] at hk
      exact ⟨fun _ => rfl, fun _ => by simpa using hk⟩
    · have hr : ls[k - 1]? = some (ls[k - 1]'(by have := hlt hy; omega)) := List.getElem?_eq_getElem _
      rw [okL_at hy (by omega) hr] at hk
      simp only [Bool.and_eq_true, Bool.not_eq_true', decide_eq_false_iff_not] at hk
      exact ⟨fun e => absurd e hk.1.2, fun e => absurd e h0⟩
  have up : ls.tail.Pairwise fun a b => Op.bytesLess a.toList b.toList = true := by
    refine pair_of_next (fun a b : ByteArray => Op.bytesLess a.toList b.toList = true) (fun _ _ _ h g => bytesLess_trans h g) _ fun k a b ha hb => ?_
    rw [List.getElem?_tail] at ha hb
    have hk := hall (k + 2) (hlt hb)
    rw [okL_at hb (by omega) (by simpa using ha)] at hk
    simp only [Bool.and_eq_true, Bool.or_eq_true, decide_eq_true_eq] at hk
    rcases hk.2 with h1 | h1
    · omega
    · exact h1
  have key : ∀ {i j : Nat} {x : ByteArray}, ls[i]? = some x → ls[j]? = some x → 0 < i → i < j → False := by
    intro i j x hi hj h0 hij
    have e1 : ls.tail[i - 1]? = some x := by rw [List.getElem?_tail, show i - 1 + 1 = i by omega]; exact hi
    have e2 : ls.tail[j - 1]? = some x := by rw [List.getElem?_tail, show j - 1 + 1 = j by omega]; exact hj
    obtain ⟨l1, e1⟩ := List.getElem?_eq_some_iff.1 e1
    obtain ⟨l2, e2⟩ := List.getElem?_eq_some_iff.1 e2
    have := List.pairwise_iff_getElem.1 up (i - 1) (j - 1) l1 l2 (by omega)
    rw [e1, e2, bytesLess_irrefl] at this
    cases this
  by_cases h0 : i = 0
  · exact h0.trans ((tau hj).1 ((tau hi).2 h0)).symm
  · have h1 : j ≠ 0 := fun e => h0 ((tau hi).1 ((tau hj).2 e))
    rcases Nat.lt_trichotomy i j with h2 | h2 | h2
    · exact (key hi hj (by omega) h2).elim
    · exact h2
    · exact (key hj hi (by omega) h2).elim

/-- The edge leads from the state by the label. -/
def hitE (ls : List ByteArray) (lab : ByteArray) (s : Int) (e : Ed) : Bool := decide (e.1 = s) && (match ls[e.2.1.toNat]? with | some r => decide (r = lab) | none => false)
def folE (es : List Ed) (ls : List ByteArray) (lab : ByteArray) (s : Int) : List Int := (es.filter (hitE ls lab s)).map (·.2.2)
def goE (es : List Ed) (ls : List ByteArray) (lab : ByteArray) (s : Int) : Int := (folE es ls lab s).headD (-1)
theorem hitE_at {ls : List ByteArray} {lab r : ByteArray} {s f lb tg : Int} (hr : ls[lb.toNat]? = some r) : hitE ls lab s (f, lb, tg) = (decide (f = s) && decide (r = lab)) := by
  unfold hitE
  simp only [hr]
theorem folE_succ {es : List Ed} {k : Nat} {e : Ed} {ls : List ByteArray} {lab : ByteArray} {s : Int} (hx : es[k]? = some e) : folE (es.take (k + 1)) ls lab s = folE (es.take k) ls lab s ++ (if hitE ls lab s e then [e.2.2] else []) := by
  unfold folE
  rw [List.take_add_one, hx, List.filter_append, List.map_append]
  congr 1
  by_cases h : hitE ls lab s e = true <;> simp [h]
theorem folE_sub (es : List Ed) (ls : List ByteArray) (lab : ByteArray) (s : Int) (k : Nat) : (folE (es.take k) ls lab s).length ≤ (folE es ls lab s).length := by
  unfold folE
  simp only [List.length_map]
  exact ((List.take_sublist k es).filter _).length_le
/-- What the edges of a valid system are. -/
theorem edge_of {st ini : Int} {ls : List ByteArray} {es : List Ed} (h : ltsV (st, ini, ls, es) = true) {k : Nat} {f lb tg : Int} (hx : es[k]? = some (f, lb, tg)) :
    (0 ≤ f ∧ f ≤ st - 1) ∧ (0 ≤ tg ∧ tg ≤ st - 1) ∧ 0 ≤ lb ∧ lb ≤ (ls.length : Int) - 1 := by
  unfold ltsV ltsB at h
  simp only [Bool.and_eq_true] at h
  have hk := allK_get h.2.2 (List.getElem?_eq_some_iff.1 hx).1
  unfold okEd at hk
  simp only [hx, Bool.and_eq_true] at hk
  exact ⟨inB_true.1 hk.1.1.1, inB_true.1 hk.1.1.2, inB_true.1 hk.1.2⟩
theorem names_of {st ini : Int} {ls : List ByteArray} {es : List Ed} (h : ltsV (st, ini, ls, es) = true) : namesB ls = true := by
  unfold ltsV ltsB at h
  simp only [Bool.and_eq_true] at h
  unfold namesB
  rw [Bool.and_eq_true]
  exact ⟨h.1.1.2, h.2.1⟩
theorem det_pair {st ini : Int} {ls : List ByteArray} {es : List Ed} (h : detV (st, ini, ls, es) = true) : es.Pairwise fun a b => a.1 < b.1 ∨ (a.1 = b.1 ∧ a.2.1 < b.2.1) := by
  unfold detV at h
  rw [Bool.and_eq_true] at h
  obtain ⟨h, g⟩ := h
  refine pair_of_next _ (fun a b c h g => ?_) _ fun k a b ha hb => ?_
  · rcases h with h | ⟨h1, h2⟩
    · rcases g with g | ⟨g1, g2⟩
      · exact .inl (by omega)
      · exact .inl (by omega)
    · rcases g with g | ⟨g1, g2⟩
      · exact .inl (by omega)
      · exact .inr ⟨by omega, by omega⟩
  · obtain ⟨a1, a2, a3⟩ := a
    obtain ⟨b1, b2, b3⟩ := b
    unfold ltsV ltsB at h
    simp only [Bool.and_eq_true] at h
    have hlt := (List.getElem?_eq_some_iff.1 hb).1
    have hk := allK_get h.2.2 hlt
    have hd := allK_get g hlt
    have ha' : es[k + 1 - 1]? = some (a1, a2, a3) := ha
    unfold okEd at hk
    have e0 : decide (k + 1 = 0) = false := by simp
    simp only [hb, ha', e0, Bool.false_or, Bool.and_eq_true] at hk
    rw [okD_at hb (by omega) ha'] at hd
    simp only [Bool.and_eq_true, Bool.not_eq_true', Bool.and_eq_false_iff, decide_eq_false_iff_not] at hd
    have he := hk.2
    unfold edLess at he
    dsimp only at he ⊢
    by_cases h1 : a1 = b1
    · by_cases h2 : a2 = b2
      · rcases hd.2 with h3 | h3
        · exact absurd h1 h3
        · exact absurd h2 h3
      · simp [h1, h2] at he
        exact .inr ⟨h1, he⟩
    · simp [h1] at he
      exact .inl he
theorem fol_one {st ini : Int} {ls : List ByteArray} {es : List Ed} (h : detV (st, ini, ls, es) = true) (lab : ByteArray) (s : Int) : (folE es ls lab s).length ≤ 1 := by
  have hp := det_pair h
  unfold detV at h
  rw [Bool.and_eq_true] at h
  have hpos : ∀ e ∈ es, 0 ≤ e.2.1 := fun e he => by
    obtain ⟨k, hk⟩ := List.getElem?_of_mem he
    exact (edge_of h.1 hk).2.2.1
  have hn := names_of h.1
  unfold folE
  rw [List.length_map]
  have hq := hp.filter (hitE ls lab s)
  have hm : ∀ e ∈ es.filter (hitE ls lab s), e ∈ es ∧ hitE ls lab s e = true := fun e he => List.mem_filter.1 he
  generalize es.filter (hitE ls lab s) = l at hq hm
  match l, hq, hm with
  | [], _, _ => simp
  | [a], _, _ => simp
  | a :: b :: l, hq, hm =>
    exfalso
    have h1 := (List.pairwise_cons.1 hq).1 b (by simp)
    obtain ⟨ma, ha⟩ := hm a (by simp)
    obtain ⟨mb, hb⟩ := hm b (by simp)
    have pa := hpos a ma
    have pb := hpos b mb
    unfold hitE at ha hb
    rw [Bool.and_eq_true, decide_eq_true_eq] at ha hb
    cases xa : ls[a.2.1.toNat]? with
    | none => simp [xa] at ha
    | some ra =>
      cases xb : ls[b.2.1.toNat]? with
      | none => simp [xb] at hb
      | some rb =>
        simp only [xa, decide_eq_true_eq] at ha
        simp only [xb, decide_eq_true_eq] at hb
        have := labs_uniq hn (xa.trans (by rw [ha.2])) (xb.trans (by rw [hb.2]))
        rcases h1 with h1 | ⟨_, h1⟩ <;> omega

end Go.Proofs.YtnhomkmfbngmgaaGreatDoor

namespace Go.Proofs.YtnhomkmfbngmgaaGreatDoor
open Go.ChangeShapes Go.WideShapes Go.ChangeAt Go.RowKit Go.Sort
set_option linter.unusedVariables false

def okVd (es : List Ed) (vs : List Int) (k : Nat) : Bool := match vs[k]? with
  | some v => inB v 0 2 && (decide (v = 0) || (outE es (k : Int)).isEmpty)
  | none => true
def monV (d : DL × List Int) : Bool := (ltsV d.1 && detB d.1.2.2.2) && (decide ((d.2.length : Int) = d.1.1) && allK (okVd d.1.2.2.2 d.2) d.2.length)
theorem okVd_at {es : List Ed} {vs : List Int} {k : Nat} {v : Int} (hx : vs[k]? = some v) : okVd es vs k = (inB v 0 2 && (decide (v = 0) || (outE es (k : Int)).isEmpty)) := by
  unfold okVd
  rw [hx]

set_option maxRecDepth 100000 in
set_option maxHeartbeats 1600000 in
theorem l30Is_calls (bm : Nat) (x : CL) (A4 : Option Addr) (n4 k4 : Nat) (d : DL) (vs : List Int) (w : World) (h : LtsAt w bm x d) (hc4 : w.cell? ⟨bm, 4, none⟩ = some (.slice A4 n4 k4)) (hn4 : n4 ≤ 1048576) (t4 : SlI w 0 w.heap.size A4 n4 vs) :
    Calls Tryz.prog 67 #[.pointer (some ⟨bm, 0, none⟩)] w fun e w' => e = .returned (.bool (monV (d, vs))) ∧ Below w.heap.size w w' := by
  have qa : ∀ d' os, Calls Tryz.prog 142 #[.pointer (some ⟨bm, 0, none⟩)] (grow (redrawn w d') os) (fun e w'' => e = .returned (.bool (ltsV d)) ∧ ∃ p : Regrown, w'' = grow (redrawn w p.d) p.os) := fun d' os => Calls.regrown_of (l11Is_calls bm x d _ (h.below (below_regrown w d' os) (Nat.le_refl _)))
  have qb : ∀ d' os, Calls Tryz.prog 143 #[.pointer (some ⟨bm, 0, none⟩)] (grow (redrawn w d') os) (fun e w'' => e = .returned (.bool (detB d.2.2.2)) ∧ ∃ p : Regrown, w'' = grow (redrawn w p.d) p.os) := fun d' os => Calls.regrown_of (l11Single_calls bm x d _ (h.below (below_regrown w d' os) (Nat.le_refl _)))
  have l4 := t4.len
  have hval : monV (d, vs) = ((ltsV d && detB d.2.2.2) && (decide ((n4 : Int) = d.1) && allK (okVd d.2.2.2 vs) n4)) := by rw [← l4]; rfl
  obtain ⟨s0, s1, v2, v3⟩ := x
  obtain ⟨st, ini, ls, es⟩ := d
  have hL := hide h
  obtain ⟨⟨e0, -, -, -⟩, -, hbm, c0, -, -, -⟩ := h
  dsimp only at *
  subst e0
  replace l4 := hide l4
  replace t4 := hide t4
  have f0 := fun d os => cell_regrown c0 d os
  have f4 := fun d os => cell_regrown hc4 d os
  cases h1 : ltsV (s0, ini, ls, es) with
  | false =>
    rw [h1] at hval
    simp only [h1] at qa
    have hv : Hid (monV ((s0, ini, ls, es), vs) = false) := hval
    replace qa := hide qa
    clear qb hval h1 hL
    go_enter Tryz.func67, Tryz.ntmps67
    go_wp2
    refine wp_region_quiet_below (by kernel_rfl) (by kernel_rfl) ?_
    repeat (go_big_quiet_step (first | (with_reducible exact qa.out _ _)))
    refine wpQuiet_nil ?_
    intro _ hw'
    obtain ⟨⟨dq, osq⟩, hw''⟩ := hw'
    subst hw''
    have hbq := below_regrown w dq osq
    generalize grow (redrawn w dq) osq = wq at *
    go_wp2
    go_ret
    exact ⟨ret_b (by rw [hv.out]), hbq⟩
  | true =>
  rw [h1] at hval
  simp only [h1] at qa
  replace qa := hide qa
  cases h2 : detB es with
  | false =>
    rw [h2] at hval
    simp only [h2] at qb
    have hv : Hid (monV ((s0, ini, ls, es), vs) = false) := hval
    replace qb := hide qb
    clear hval h1 h2 hL
    go_enter Tryz.func67, Tryz.ntmps67
    go_wp2
    refine wp_region_quiet_below (by kernel_rfl) (by kernel_rfl) ?_
    repeat (go_big_quiet_step (first | (with_reducible exact qa.out _ _) | (with_reducible exact qb.out _ _)))
    refine wpQuiet_nil ?_
    intro _ hw'
    obtain ⟨⟨dq, osq⟩, hw''⟩ := hw'
    subst hw''
    have hbq := below_regrown w dq osq
    generalize grow (redrawn w dq) osq = wq at *
    go_wp2
    go_ret
    exact ⟨ret_b (by rw [hv.out]), hbq⟩
  | true =>
  rw [h2] at hval
  simp only [h2] at qb
  replace qb := hide qb
  by_cases h3 : (n4 : Int) = s0
  case neg =>
    rw [decide_eq_false h3] at hval
    have hv : Hid (monV ((s0, ini, ls, es), vs) = false) := hval
    have h3b : ((n4 : Int) != s0) = true := by rw [bne_iff_ne]; exact h3
    clear hval h1 h2 hL h3
    go_enter Tryz.func67, Tryz.ntmps67
    go_wp2
    refine wp_region_quiet_below (by kernel_rfl) (by kernel_rfl) ?_
    repeat (go_big_quiet_step (first | (with_reducible exact qa.out _ _) | (with_reducible exact qb.out _ _)))
    refine wpQuiet_nil ?_
    intro _ hw'
    obtain ⟨⟨dq, osq⟩, hw''⟩ := hw'
    subst hw''
    have hbq := below_regrown w dq osq
    generalize grow (redrawn w dq) osq = wq at *
    go_wp2
    go_ret
    exact ⟨ret_b (by rw [hv.out]), hbq⟩
  rw [decide_eq_true h3] at hval
  have hval2 : Hid (monV ((s0, ini, ls, es), vs) = allK (okVd es vs) n4) := by show _ = _; rw [hval]; rfl
  subst h3
  clear hval h1 h2
  go_enter Tryz.func67, Tryz.ntmps67
  go_wp2
  refine wp_region_quiet_below (by kernel_rfl) (by kernel_rfl) ?_
  repeat (go_big_quiet_step (first | (with_reducible exact qa.out _ _) | (with_reducible exact qb.out _ _)))
  refine wpQuiet_nil ?_
  intro _ hw'
  obtain ⟨⟨dq, osq⟩, hw''⟩ := hw'
  subst hw''
  have hbq := below_regrown w dq osq
  generalize grow (redrawn w dq) osq = wq at *
  clear f0 f4 qa qb
  have m4 := (hbq.cell (p := ⟨bm, 4, none⟩) hbm).trans hc4
  replace hbq := hide hbq
  go_wp2
  go_loopw [3] (fun i wr => ∃ k : Nat, k ≤ n4 ∧ i = .int .i64 (k : Nat) ∧ Hid (∀ j, j < k → okVd es vs j = true) ∧ Below w.heap.size w wr) (fun i _ => n4 - (intOf i).toNat)
  case atStart => exact ⟨0, Nat.zero_le _, rfl, fun j hj => absurd hj (by omega), hbq.out⟩
  case round =>
    clear m4
    obtain ⟨k, hk, rfl, ha, hb⟩ := hrel
    have y4 := (hb.cell (p := ⟨bm, 4, none⟩) hbm).trans hc4
    by_cases hlt : k < n4
    · obtain ⟨b, off, v, rfl, g1, g2, g3, hx, p0, -⟩ := SlI.get t4.out hlt
      replace p0 := (hb.cell (p := ⟨b, off + k, none⟩) g3).trans p0
      have hok := okVd_at (es := es) hx
      have qo := l11Out_calls bm _ _ (k : Int) wr (hL.out.below hb (Nat.le_refl _))
      dsimp only at qo
      replace qo := hide qo
      replace hb := hide hb
      clear hx g1 g2 g3
      cases z0 : inB v 0 2 with
      | false =>
        rw [z0] at hok
        have hv : Hid (monV (((n4 : Int), ini, ls, es), vs) = false) := by show _ = _; rw [hval2.out]; exact allK_bad hlt hok
        clear hok ha qo hL t4
        go_wp2_with (first | (go_at_call 144; (with_reducible refine (l00In_calls _ _ _ _).mono ?_); rintro e w' ⟨rfl, rfl⟩))
        go_ret
        exact ⟨ret_b (by rw [hv.out]), hb.out⟩
      | true =>
      rw [z0, Bool.true_and] at hok
      by_cases hv0 : v = 0
      · have hnext : Hid (∀ j, j < k + 1 → okVd es vs j = true) := lt_succ_cases ha.out (by rw [hok, decide_eq_true hv0]; rfl)
        subst hv0
        clear hok ha qo
        go_wp2_with (first | (go_at_call 144; (with_reducible refine (l00In_calls _ _ _ _).mono ?_); rintro e w' ⟨rfl, rfl⟩))
        go_roundw
        case rel => exact ⟨k + 1, by omega, by go_num, hnext, hb.out⟩
        case measure => simp [intOf]; omega
      rw [decide_eq_false hv0, Bool.false_or] at hok
      have hvb : (v != 0) = true := by rw [bne_iff_ne]; exact hv0
      have hvb2 : (v == 0) = false := by rw [beq_eq_false_iff_ne]; exact hv0
      clear hv0
      cases ho : (outE es (k : Int)).isEmpty with
      | true =>
        have hnext : Hid (∀ j, j < k + 1 → okVd es vs j = true) := lt_succ_cases ha.out (by rw [hok, ho])
        have ho2 : outE es (k : Int) = [] := List.isEmpty_iff.1 ho
        have qo2 : Hid (Calls Tryz.prog 145 #[.pointer (some ⟨bm, 0, none⟩), .int .i64 (k : Int)] wr fun e w' => ∃ A c, e = .returned (.slice A 0 c) ∧ Below wr.heap.size wr w') := qo.out.mono fun e w' ⟨A, n, c, h1, h2, _, h4⟩ => by
          rw [ho2] at h2
          have := h2.len
          simp at this
          subst this
          exact ⟨A, c, h1, h4⟩
        clear hok ha ho ho2 qo
        go_wp2_with (first | (go_at_call 144; (with_reducible refine (l00In_calls _ _ _ _).mono ?_); rintro e w' ⟨rfl, rfl⟩) | (go_at_call 145; (with_reducible refine qo2.out.mono ?_); rintro e w2 ⟨A5, c5, rfl, hb2⟩; replace hb2 := hide hb2))
        go_roundw
        case rel => exact ⟨k + 1, by omega, by go_num, hnext, hb.out.trans (hb2.out.mono hb.out.size)⟩
        case measure => simp [intOf]; omega
      | false =>
        have hv : Hid (monV (((n4 : Int), ini, ls, es), vs) = false) := by show _ = _; rw [hval2.out]; exact allK_bad hlt (by rw [hok, ho])
        have qo2 : Hid (Calls Tryz.prog 145 #[.pointer (some ⟨bm, 0, none⟩), .int .i64 (k : Int)] wr fun e w' => ∃ A n c, e = .returned (.slice A n c) ∧ (0 : Int) < (n : Int) ∧ Below wr.heap.size wr w') := qo.out.mono fun e w' ⟨A, n, c, h1, h2, _, h4⟩ => by
          have hl := h2.len
          have : outE es (k : Int) ≠ [] := fun e => by rw [e] at ho; cases ho
          have : (outE es (k : Int)).length ≠ 0 := fun e => this (List.eq_nil_of_length_eq_zero e)
          exact ⟨A, n, c, h1, by omega, h4⟩
        clear hok ha ho qo hL t4
        go_wp2_with (first | (go_at_call 144; (with_reducible refine (l00In_calls _ _ _ _).mono ?_); rintro e w' ⟨rfl, rfl⟩) | (go_at_call 145; (with_reducible refine qo2.out.mono ?_); rintro e w2 ⟨A5, n5, c5, rfl, hn5, hb2⟩; replace hb2 := hide hb2))
        go_ret
        exact ⟨ret_b (by rw [hv.out]), hb.out.trans (hb2.out.mono hb.out.size)⟩
    · have hkn : k = n4 := by omega
      subst hkn
      have hv : Hid (monV (((k : Int), ini, ls, es), vs) = true) := by show _ = _; rw [hval2.out]; exact allK_good ha.out
      go_wp2_with fail
      go_ret
      exact ⟨ret_b (by rw [hv.out]), hb⟩

end Go.Proofs.YtnhomkmfbngmgaaGreatDoor

namespace Go.Proofs.YtnhomkmfbngmgaaGreatDoor
set_option linter.unusedVariables false

theorem str_list_ne {a b : ByteArray} (h : ¬ a = b) : (b.toList == a.toList) = false ∧ ¬ b.toList = a.toList := by
  have h1 := str_neq (a := b) (b := a) (fun e => h e.symm)
  exact ⟨h1, fun e => by rw [e] at h1; simp at h1⟩
end Go.Proofs.YtnhomkmfbngmgaaGreatDoor

namespace Go.Proofs.YtnhomkmfbngmgaaGreatDoor
open Go.ChangeShapes Go.WideShapes Go.ChangeAt Go.RowKit Go.Sort
set_option linter.unusedVariables false

theorem folE_cons {es : List Ed} {ls : List ByteArray} {lab : ByteArray} {s : Int} {k : Nat} {e : Ed} (h0 : folE (es.take k) ls lab s = []) (hx : es[k]? = some e) (hh : hitE ls lab s e = true) : goE es ls lab s = e.2.2 := by
  have hlt := (List.getElem?_eq_some_iff.1 hx).1
  have hdrop : es.drop k = e :: es.drop (k + 1) := by rw [List.drop_eq_getElem_cons hlt, (List.getElem?_eq_some_iff.1 hx).2]
  have hes : es = es.take k ++ es.drop k := (List.take_append_drop k es).symm
  unfold goE
  have h1 : folE es ls lab s = folE (es.take k) ls lab s ++ folE (es.drop k) ls lab s := by
    unfold folE
    rw [← List.map_append, ← List.filter_append, List.take_append_drop]
  rw [h1, h0, hdrop]
  unfold folE
  simp [hh]
theorem goE_none {es : List Ed} {ls : List ByteArray} {lab : ByteArray} {s : Int} (h : folE es ls lab s = []) : goE es ls lab s = -1 := by
  unfold goE
  rw [h]
  rfl
theorem fol_miss {es : List Ed} {ls : List ByteArray} {lab : ByteArray} {s : Int} {k : Nat} {e : Ed} (h0 : folE (es.take k) ls lab s = []) (hx : es[k]? = some e) (hh : hitE ls lab s e = false) : folE (es.take (k + 1)) ls lab s = [] := by
  rw [folE_succ hx, h0, hh]
  rfl
theorem fol_neg {st ini : Int} {ls : List ByteArray} {es : List Ed} (h : ltsV (st, ini, ls, es) = true) {lab : ByteArray} {s : Int} (hs : s < 0) : folE es ls lab s = [] := by
  unfold folE
  rw [List.map_eq_nil_iff, List.filter_eq_nil_iff]
  rintro ⟨f, lb, tg⟩ he
  obtain ⟨k, hk⟩ := List.getElem?_of_mem he
  have h1 := (edge_of h hk).1.1
  unfold hitE
  have : decide (f = s) = false := decide_eq_false (by omega)
  simp [this]

set_option maxRecDepth 100000 in
set_option maxHeartbeats 1600000 in
theorem l12Go_calls (bt : Nat) (x : CL) (d : DL) (s : Int) (lab : ByteArray) (w : World) (h : LtsAt w bt x d) (hval : ltsV d = true) :
    Calls Tryz.prog 147 #[.pointer (some ⟨bt, 0, none⟩), .int .i64 s, .string lab] w fun e w' => e = .returned (.int .i64 (goE d.2.2.2 d.2.2.1 lab s)) ∧ Below w.heap.size w w' := by
  obtain ⟨s0, s1, v2, v3⟩ := x
  obtain ⟨st, ini, ls, es⟩ := d
  obtain ⟨⟨e0, e1, ⟨A2, n2, k2, e2, hn2, hs2, t2⟩, ⟨A3, n3, k3, e3, hn3, t3⟩⟩, htot, hbt, -, -, c2, c3⟩ := h
  dsimp only at *
  subst e0 e1 e2 e3
  have l2 := t2.len
  have l3 := t3.len
  have hes : n3 ≤ 1048576 := by rw [← l3]; exact Nat.le_trans (totL_edg (s0, s1, ls, es)) htot
  replace l2 := hide l2
  replace l3 := hide l3
  replace t2 := hide t2
  replace t3 := hide t3
  replace hval := hide hval
  clear htot hs2 hn2 hn3
  by_cases hs0 : s < 0
  · have hv : Hid (goE es ls lab s = -1) := goE_none (fol_neg hval.out hs0)
    have hsI : ¬ (0 : Int) ≤ s := by omega
    clear t2 t3
    by_cases h0 : 0 < n3
    · have h0I : (0 : Int) < (n3 : Int) := by omega
      go_enter Tryz.func147, Tryz.ntmps147
      go_wp2
      go_loopw [7] (fun i wr => i = .int .i64 0 ∧ wr = w) (fun i _ => 0)
      case atStart => exact ⟨rfl, rfl⟩
      case round =>
        obtain ⟨rfl, rfl⟩ := hrel
        go_wp2
        go_ret
        exact ⟨ret_i (by rw [hv.out]), Below.refl _ _⟩
    · have h0I : ¬ (0 : Int) < (n3 : Int) := by omega
      go_enter Tryz.func147, Tryz.ntmps147
      go_wp2
      go_loopw [7] (fun i wr => i = .int .i64 0 ∧ wr = w) (fun i _ => 0)
      case atStart => exact ⟨rfl, rfl⟩
      case round =>
        obtain ⟨rfl, rfl⟩ := hrel
        go_wp2
        go_ret
        exact ⟨ret_i (by rw [hv.out]), Below.refl _ _⟩
  have hsI : (0 : Int) ≤ s := by omega
  go_enter Tryz.func147, Tryz.ntmps147
  go_wp2
  go_loopw [7] (fun i wr => ∃ k : Nat, k ≤ n3 ∧ i = .int .i64 (k : Nat) ∧ Hid (folE (es.take k) ls lab s = []) ∧ Below w.heap.size w wr) (fun i _ => n3 - (intOf i).toNat)
  case atStart => exact ⟨0, Nat.zero_le _, rfl, rfl, Below.refl _ _⟩
  case round =>
    obtain ⟨k, hk, rfl, ha, hb⟩ := hrel
    have y2 := (hb.cell (p := ⟨bt, 2, none⟩) hbt).trans c2
    have y3 := (hb.cell (p := ⟨bt, 3, none⟩) hbt).trans c3
    clear c2 c3
    by_cases hlt : k < n3
    · obtain ⟨b, off, f, lb, tg, rfl, -, -, g3, hx, p0, p1, p2, -, -, -⟩ := SlE.get t3.out hlt
      replace p0 := (hb.cell g3).trans p0
      replace p1 := (hb.cell (p := ⟨b, off + k * 3 + 1, none⟩) g3).trans p1
      replace p2 := (hb.cell (p := ⟨b, off + k * 3 + 2, none⟩) g3).trans p2
      have hed := edge_of hval.out hx
      have hl0 : (0 : Int) ≤ lb := hed.2.2.1
      have hl1 : lb < (n2 : Int) := by have := hed.2.2.2; have := l2.out; omega
      obtain ⟨b2, off2, r, rfl, -, -, g32, hr, p3, -⟩ := SlS.get t2.out (show lb.toNat < n2 by omega)
      replace p3 := (hb.cell (p := ⟨b2, off2 + lb.toNat, none⟩) g32).trans p3
      have f2 := fun d os => cell_regrown y2 d os
      have f3 := fun d os => cell_regrown y3 d os
      have u0 := fun d os => cell_regrown p0 d os
      have u1 := fun d os => cell_regrown p1 d os
      have u3 := fun d os => cell_regrown p3 d os
      have hh := hitE_at (lab := lab) (s := s) (f := f) (tg := tg) hr
      have hI0 : (0 : Int) ≤ (k : Int) := by omega
      have hI1 : (k : Int) < (n3 : Int) := by omega
      have gr : b < wr.heap.size := Nat.lt_of_lt_of_le g3 hb.size
      clear hed t2 t3
      by_cases hf : f = s
      · rw [decide_eq_true hf, Bool.true_and] at hh
        by_cases hrl : r = lab
        · have hv : Hid (goE es ls lab s = tg) := folE_cons ha.out hx (by rw [hh]; exact decide_eq_true hrl)
          subst hf
          subst hrl
          have hself : (r.toList == r.toList) = true := beq_self_eq_true _
          clear hx hr hh ha
          go_wp2
          refine wp_region_quiet_below (by kernel_rfl) (by kernel_rfl) ?_
          repeat (go_big_quiet_step (fail))
          refine wpQuiet_nil ?_
          intro _ hw'
          obtain ⟨⟨dq, osq⟩, hw''⟩ := hw'
          subst hw''
          have hbq := below_regrown wr dq osq
          generalize grow (redrawn wr dq) osq = wq at *
          have z3 := (hbq.cell (p := ⟨bt, 3, none⟩) (Nat.lt_of_lt_of_le hbt hb.size)).trans y3
          have z2 := (hbq.cell (p := ⟨b, off + k * 3 + 2, none⟩) gr).trans p2
          clear f2 f3 u0 u1 u3
          replace hbq := hide hbq
          go_wp2
          go_ret
          exact ⟨ret_i (by rw [hv.out]), hb.trans (hbq.out.mono hb.size)⟩
        · have hne := str_list_ne (a := lab) (b := r) (fun e => hrl e.symm)
          obtain ⟨hne1, hne2⟩ := hne
          have hnext : Hid (folE (es.take (k + 1)) ls lab s = []) := fol_miss ha.out hx (by rw [hh]; exact decide_eq_false hrl)
          subst hf
          clear hx hr hh ha hrl
          go_wp2
          refine wp_region_quiet_below (by kernel_rfl) (by kernel_rfl) ?_
          repeat (go_big_quiet_step (fail))
          refine wpQuiet_nil ?_
          intro _ hw'
          obtain ⟨⟨dq, osq⟩, hw''⟩ := hw'
          subst hw''
          have hbq := below_regrown wr dq osq
          generalize grow (redrawn wr dq) osq = wq at *
          have hbw := hide (hb.trans (hbq.mono hb.size))
          clear f2 f3 u0 u1 u3 hbq hb
          go_wp2
          go_roundw
          case rel => exact ⟨k + 1, by omega, by go_num, hnext, hbw.out⟩
          case measure => simp [intOf]; omega
      · have hfb : (f == s) = false := by rw [beq_eq_false_iff_ne]; exact hf
        have hnext : Hid (folE (es.take (k + 1)) ls lab s = []) := fol_miss ha.out hx (by rw [hh, decide_eq_false hf]; rfl)
        clear hx hr hh ha
        go_wp2
        refine wp_region_quiet_below (by kernel_rfl) (by kernel_rfl) ?_
        repeat (go_big_quiet_step (fail))
        refine wpQuiet_nil ?_
        intro _ hw'
        obtain ⟨⟨dq, osq⟩, hw''⟩ := hw'
        subst hw''
        have hbq := below_regrown wr dq osq
        generalize grow (redrawn wr dq) osq = wq at *
        have hbw := hide (hb.trans (hbq.mono hb.size))
        clear f2 f3 u0 u1 u3 hbq hb
        go_wp2
        go_roundw
        case rel => exact ⟨k + 1, by omega, by go_num, hnext, hbw.out⟩
        case measure => simp [intOf]; omega
    · have hkn : k = n3 := by omega
      subst hkn
      have hv : Hid (goE es ls lab s = -1) := goE_none (by have := ha.out; rw [List.take_of_length_le (by rw [l3.out]; exact Nat.le_refl _)] at this; exact this)
      clear ha t2 t3
      go_wp2
      go_ret
      exact ⟨ret_i (by rw [hv.out]), hb⟩

end Go.Proofs.YtnhomkmfbngmgaaGreatDoor

namespace Go.Proofs.YtnhomkmfbngmgaaGreatDoor
open Go.ChangeShapes Go.WideShapes Go.ChangeAt Go.RowKit Go.Sort
set_option linter.unusedVariables false

set_option maxRecDepth 100000 in
theorem indexI_calls (v : Int) (A : Option Addr) (n c : Nat) (l : List Int) (w : World) (lo hi : Nat) (h : SlI w lo hi A n l) (hn : n ≤ 1048576) :
    Calls Tryz.prog 130 #[.slice A n c, .int .i64 v] w fun e w' => ∃ i : Int, e = .returned (.int .i64 i) ∧ decide (0 ≤ i) = l.any (fun x => decide (x = v)) ∧ w = w' := by
  have hlen := hide h.len
  go_enter Tryz.func130, Tryz.ntmps130
  go_wp2
  go_loop [8] (fun i => ∃ k : Nat, k ≤ n ∧ i = .int .i64 k ∧ Hid ((l.take k).any (fun x => decide (x = v)) = false)) (fun i => n - (intOf i).toNat)
  case atStart => exact ⟨0, Nat.zero_le _, rfl, rfl⟩
  case round =>
    obtain ⟨k, hk, rfl, ha⟩ := hrel
    by_cases hlt : k < n
    · obtain ⟨b, off, x, rfl, g1, g2, g3, hx, c0, -⟩ := SlI.get h hlt
      clear h
      by_cases hq : x = v
      · have hy := hide (any_hit (G := fun x => decide (x = v)) hx (decide_eq_true hq))
        subst hq
        clear hx
        go_wp2
        go_ret
        exact ⟨_, rfl, by rw [hy.out]; simp, rfl⟩
      · have hy := hide (any_take_succ ha.out hx (decide_eq_false hq))
        have hne : (v == x) = false := by rw [beq_eq_false_iff_ne]; exact fun e => hq e.symm
        clear hx hq
        go_wp2
        go_round
        case rel => exact ⟨k + 1, by omega, by go_num, hy⟩
        case measure => simp [intOf]; omega
    · have hkn : k = n := by omega
      subst hkn
      clear h
      go_wp2
      go_ret
      have hy := ha.out
      rw [List.take_of_length_le (by rw [hlen.out]; exact Nat.le_refl _)] at hy
      exact ⟨_, rfl, by rw [hy]; decide, rfl⟩
theorem containsI_calls (v : Int) (A : Option Addr) (n c : Nat) (l : List Int) (w : World) (lo hi : Nat) (h : SlI w lo hi A n l) (hn : n ≤ 1048576) :
    Calls Tryz.prog 193 #[.slice A n c, .int .i64 v] w fun e w' => e = .returned (.bool (l.any (fun x => decide (x = v)))) ∧ w = w' := by
  have q := hide (indexI_calls v A n c l w lo hi h hn)
  clear h
  go_enter Tryz.func193, Tryz.ntmps193
  go_wp2_with fail
  refine q.out.mono ?_
  rintro e w1 ⟨i, rfl, hi, rfl⟩
  replace hi := hide hi
  go_wp2_with fail
  go_ret
  exact ⟨ret_b hi.out.symm, rfl⟩

theorem len64_short (n : Nat) (hn : n ≤ 1) (w : World) : Calls Tryz.prog 290 #[.int .u64 (n : Int)] w fun e w' => e = .returned (.int .i64 (n : Int)) ∧ w = w' := by
  have h : n = 0 ∨ n = 1 := by omega
  rcases h with rfl | rfl
  · go_enter Tryz.func290, Tryz.ntmps290
    go_wp2
    go_ret
    exact ⟨ret_i (by decide +kernel), rfl⟩
  · go_enter Tryz.func290, Tryz.ntmps290
    go_wp2
    go_ret
    exact ⟨ret_i (by decide +kernel), rfl⟩
theorem len_short (n : Nat) (hn : n ≤ 1) (w : World) : Calls Tryz.prog 224 #[.int .u64 (n : Int)] w fun e w' => e = .returned (.int .i64 (n : Int)) ∧ w = w' := by
  have q := hide (len64_short n hn w)
  have h : n = 0 ∨ n = 1 := by omega
  rcases h with rfl | rfl
  · go_enter Tryz.func224, Tryz.ntmps224
    go_wp2_with fail
    refine q.out.mono ?_
    rintro e w1 ⟨rfl, rfl⟩
    go_wp2_with fail
    go_ret
    exact ⟨rfl, rfl⟩
  · go_enter Tryz.func224, Tryz.ntmps224
    go_wp2_with fail
    refine q.out.mono ?_
    rintro e w1 ⟨rfl, rfl⟩
    go_wp2_with fail
    go_ret
    exact ⟨rfl, rfl⟩
theorem insert_short (A : Option Addr) (n c : Nat) (hn : n ≤ 1) (w : World) : Calls Tryz.prog 295 #[.slice A n c, .int .i64 0, .int .i64 (n : Int)] w fun e w' => e = .returned (.tuple #[]) ∧ w = w' := by
  have h1 : ¬ (1 : Int) < (n : Int) := by omega
  go_enter Tryz.func295, Tryz.ntmps295
  go_wp2
  go_loopw [6] (fun i wr => i = .int .i64 1 ∧ wr = w) (fun i _ => 0)
  case atStart => exact ⟨rfl, rfl⟩
  case round =>
    obtain ⟨rfl, rfl⟩ := hrel
    go_wp2
    go_returns
    exact ⟨rfl, rfl⟩
theorem pdq_short (A : Option Addr) (n c : Nat) (m : Int) (hn : n ≤ 1) (w : World) : Calls Tryz.prog 238 #[.slice A n c, .int .i64 0, .int .i64 (n : Int), .int .i64 m] w fun e w' => e = .returned (.tuple #[]) ∧ w = w' := by
  have q := hide (insert_short A n c hn w)
  have h1 : (n : Int) ≤ 12 := by omega
  go_enter Tryz.func238, Tryz.ntmps238
  go_wp2
  go_loopw [1, 2] (fun a b wr => a = .int .i64 0 ∧ b = .int .i64 (n : Int) ∧ wr = w) (fun _ _ _ => 0)
  case atStart => exact ⟨rfl, rfl, rfl⟩
  case round =>
    obtain ⟨rfl, rfl, rfl⟩ := hrel
    go_wp2_with fail
    refine q.out.mono ?_
    rintro e w1 ⟨rfl, rfl⟩
    go_wp2_with fail
    go_returns
    exact ⟨rfl, rfl⟩
theorem sort_short (A : Option Addr) (n c : Nat) (hn : n ≤ 1) (w : World) : Calls Tryz.prog 160 #[.slice A n c] w fun e w' => e = .returned (.tuple #[]) ∧ w = w' := by
  have q := hide (len_short n hn w)
  have q1 := hide (fun m => pdq_short A n c m hn w)
  have h1 : (n : Int) ≤ 1 := by omega
  go_enter Tryz.func160, Tryz.ntmps160
  go_wp2_with fail
  refine q.out.mono ?_
  rintro e w1 ⟨rfl, rfl⟩
  go_wp2_with fail
  refine (q1.out _).mono ?_
  rintro e w1 ⟨rfl, rfl⟩
  go_wp2_with fail
  go_returns
  exact ⟨rfl, rfl⟩
theorem compact_short (A : Option Addr) (n c : Nat) (hn : n ≤ 1) (w : World) : Calls Tryz.prog 161 #[.slice A n c] w fun e w' => e = .returned (.slice A n c) ∧ w = w' := by
  have h1 : (n : Int) < 2 := by omega
  go_enter Tryz.func161, Tryz.ntmps161
  go_wp2
  go_ret
  exact ⟨rfl, rfl⟩

end Go.Proofs.YtnhomkmfbngmgaaGreatDoor

namespace Go.Proofs.YtnhomkmfbngmgaaGreatDoor
open Go.ChangeShapes Go.WideShapes Go.ChangeAt Go.RowKit Go.Sort
set_option linter.unusedVariables false
set_option linter.unusedSimpArgs false

set_option maxRecDepth 100000 in
set_option maxHeartbeats 3200000 in
theorem follow_calls (s0 s1 : Int) (A2 : Option Addr) (n2 k2 : Nat) (A3 : Option Addr) (n3 k3 : Nat) (A1 : Option Addr) (c1 : Nat) (s : Int) (lab : ByteArray) (ls : List ByteArray) (es : List Ed) (w : World) (lo hi lo1 hi1 : Nat)
    (t2 : SlS w lo hi A2 n2 ls) (t3 : SlE w lo hi A3 n3 es) (t1 : SlI w lo1 hi1 A1 1 [s]) (hes : n3 ≤ 1048576) (hval : detV (s0, s1, ls, es) = true) :
    Calls Tryz.prog 181 #[.agg #[.int .i64 s0, .int .i64 s1, .slice A2 n2 k2, .slice A3 n3 k3], .slice A1 1 c1, .string lab] w fun e w' => ∃ A n c, e = .returned (.slice A n c) ∧ SlI w' w.heap.size w'.heap.size A n (folE es ls lab s) ∧ n ≤ 1 ∧ Below w.heap.size w w' := by
  have l2 := hide t2.len
  have l3 := hide t3.len
  have hone := hide (fol_one hval lab s)
  have hlts : Hid (ltsV (s0, s1, ls, es) = true) := by unfold detV at hval; rw [Bool.and_eq_true] at hval; exact hval.1
  have hW0 := hide (show Below w.heap.size w (w.alloc (.cells #[.int .i64 s0, .int .i64 s1, .slice A2 n2 k2, .slice A3 n3 k3] 27)) from (Below.refl _ _).alloc (Nat.le_refl _) _)
  have kE := heap_alloc_new w (.cells #[.int .i64 s0, .int .i64 s1, .slice A2 n2 k2, .slice A3 n3 k3] 27)
  have hbt : w.heap.size < (w.alloc (.cells #[.int .i64 s0, .int .i64 s1, .slice A2 n2 k2, .slice A3 n3 k3] 27)).heap.size := by rw [World.size_alloc]; omega
  have hE := hide elem_int
  replace t1 := hide t1
  replace t2 := hide t2
  replace t3 := hide t3
  clear hval
  go_enter Tryz.func181, Tryz.ntmps181
  go_upto_region 3 with fail
  have c2 : (w.alloc (.cells #[.int .i64 s0, .int .i64 s1, .slice A2 n2 k2, .slice A3 n3 k3] 27)).cell? ⟨w.heap.size, 2, none⟩ = some (.slice A2 n2 k2) := (cell_of_row _ _ 2 _ _ (0, 0) kE).trans rfl
  have c3 : (w.alloc (.cells #[.int .i64 s0, .int .i64 s1, .slice A2 n2 k2, .slice A3 n3 k3] 27)).cell? ⟨w.heap.size, 3, none⟩ = some (.slice A3 n3 k3) := (cell_of_row _ _ 3 _ _ (0, 0) kE).trans rfl
  clear kE
  generalize hWW : (w.alloc (.cells #[.int .i64 s0, .int .i64 s1, .slice A2 n2 k2, .slice A3 n3 k3] 27)) = W0 at *
  clear hWW
  have hbt1 : w.heap.size + 1 ≤ W0.heap.size := hbt
  go_loopw [7, 13] (fun o i wr => ∃ k m c A, k ≤ n3 ∧ o = .slice A m c ∧ i = .int .i64 (k : Nat) ∧ m ≤ 1 ∧ Hid (Own 1 iv wr W0.heap.size 2 A m c (folE (es.take k) ls lab s)) ∧ Below W0.heap.size W0 wr) (fun _ i _ => n3 - (intOf i).toNat)
  case atStart => exact ⟨0, 0, 0, none, Nat.zero_le _, rfl, rfl, Nat.zero_le _, Own.nil_ _ _ _, Below.refl _ _⟩
  case round =>
    obtain ⟨k, m, c, A, hk, rfl, rfl, hm, hown, hb⟩ := hrel
    have hz := hb.size
    have hwb := hW0.out.trans (hb.mono (by omega))
    have y2 := (hb.cell (p := ⟨w.heap.size, 2, none⟩) hbt).trans c2
    have y3 := (hb.cell (p := ⟨w.heap.size, 3, none⟩) hbt).trans c3
    clear c2 c3
    by_cases hlt : k < n3
    · obtain ⟨b, off, f, lb, tg, rfl, -, -, g3, hx, p0, p1, p2, -, -, -⟩ := SlE.get t3.out hlt
      replace p0 := (hwb.cell g3).trans p0
      replace p1 := (hwb.cell (p := ⟨b, off + k * 3 + 1, none⟩) g3).trans p1
      replace p2 := (hwb.cell (p := ⟨b, off + k * 3 + 2, none⟩) g3).trans p2
      have hed := edge_of hlts.out hx
      have hl0 : (0 : Int) ≤ lb := hed.2.2.1
      have hl1 : lb < (n2 : Int) := by have := hed.2.2.2; have := l2.out; omega
      obtain ⟨b2, off2, r, rfl, -, -, g32, hr, p3, -⟩ := SlS.get t2.out (show lb.toNat < n2 by omega)
      have hh := hitE_at (lab := lab) (s := s) (f := f) (tg := tg) hr
      have hsu := folE_succ (ls := ls) (lab := lab) (s := s) hx
      have hsb := Nat.le_trans (folE_sub es ls lab s (k + 1)) hone.out
      have hbE : Below wr.heap.size wr (wr.alloc (.cells #[.int .i64 f, .int .i64 lb, .int .i64 tg] 84)) := (Below.refl _ _).alloc (Nat.le_refl _) _
      have kE := heap_alloc_new wr (.cells #[.int .i64 f, .int .i64 lb, .int .i64 tg] 84)
      have hgw : w.heap.size < wr.heap.size := by omega
      have x2 := (hbE.cell (p := ⟨w.heap.size, 2, none⟩) hgw).trans y2
      have x3 := (hbE.cell (p := ⟨w.heap.size, 3, none⟩) hgw).trans y3
      have z0 : (wr.alloc (.cells #[.int .i64 f, .int .i64 lb, .int .i64 tg] 84)).cell? ⟨wr.heap.size, 0, none⟩ = some (.int .i64 f) := (cell_of_row _ _ 0 _ _ (0, 0) kE).trans rfl
      have z1 : (wr.alloc (.cells #[.int .i64 f, .int .i64 lb, .int .i64 tg] 84)).cell? ⟨wr.heap.size, 1, none⟩ = some (.int .i64 lb) := (cell_of_row _ _ 1 _ _ (0, 0) kE).trans rfl
      have z2 : (wr.alloc (.cells #[.int .i64 f, .int .i64 lb, .int .i64 tg] 84)).cell? ⟨wr.heap.size, 2, none⟩ = some (.int .i64 tg) := (cell_of_row _ _ 2 _ _ (0, 0) kE).trans rfl
      have hbw : Below w.heap.size w (wr.alloc (.cells #[.int .i64 f, .int .i64 lb, .int .i64 tg] 84)) := hwb.trans (hbE.mono hwb.size)
      have p3' := (hbw.cell (p := ⟨b2, off2 + lb.toNat, none⟩) g32).trans p3
      have hbB := hb.trans (hbE.mono hz)
      have hzB := hbB.size
      have qc := hide (containsI_calls f A1 1 c1 [s] _ lo1 hi1 (t1.out.below hbw (.inr (Nat.le_refl _))) (by omega))
      replace hown := hide (hown.out.alloc (.cells #[.int .i64 f, .int .i64 lb, .int .i64 tg] 84))
      have hI0 : (0 : Int) ≤ (k : Int) := by omega
      have hI1 : (k : Int) < (n3 : Int) := by omega
      have hany : [s].any (fun x => decide (x = f)) = decide (f = s) := by
        by_cases e : s = f
        · simp [e]
        · have : ¬ f = s := fun x => e x.symm
          simp [e, this]
      rw [hany] at qc
      replace hbB := hide hbB
      clear hed t1 t2 t3 hwb hb hbE kE p3 hz hbw
      go_upto_region 5 with fail
      clear p0 p1 p2 y2 y3 x3
      generalize hWE : (wr.alloc (.cells #[.int .i64 f, .int .i64 lb, .int .i64 tg] 84)) = WE at *
      generalize hbE : wr.heap.size = bE at *
      clear hWE hbE
      have hza : ∀ o, W0.heap.size ≤ (WE.alloc o).heap.size := fun o => by rw [World.size_alloc]; omega
      by_cases hrl : r = lab
      · subst hrl
        have hself : (r.toList == r.toList) = true := beq_self_eq_true _
        by_cases hf : f = s
        · rw [hh, decide_eq_true hf, decide_eq_true rfl] at hsu
          rw [decide_eq_true hf] at qc
          have hm0 : m = 0 := by
            have h1 := hown.out.len
            rw [hsu] at hsb
            simp at hsb
            rw [hsb] at h1
            exact h1.symm
          subst hm0
          replace hsu := hide hsu
          clear hx hr hh hf hany hsb
          go_wp2_with (first
            | (go_at_call 193; (with_reducible refine qc.out.mono ?_); rintro e w' ⟨rfl, rfl⟩)
            | (at_builtin; (with_reducible refine wpList_app rfl (.tmp 31) (.tmp 34) rfl hE.out flat_iv rfl (hown.out.alloc _) rfl (Sl.lit1' _ 2 tg _ rfl 1 _ ?c0) ?c1 (hza _) ?_); rotate_right; intro A5 c5 w5 hown5 hgr5 hb5 _))
          case c0 => rfl
          case c1 => omega
          have hb6 := (hbB.out.alloc hzB (.cells #[.int .i64 tg] 2)).trans hb5
          replace hown5 : Hid (Own 1 iv w5 W0.heap.size 2 A5 (0 + 1) c5 (folE (es.take (k + 1)) ls r s)) := by show Own _ _ _ _ _ _ _ _ _; rw [hsu.out]; exact hown5
          go_roundw
          case rel => exact ⟨k + 1, 0 + 1, c5, A5, by omega, rfl, by go_num, by omega, hown5, hb6⟩
          case measure => simp [intOf]; omega
        · rw [hh, decide_eq_false hf] at hsu
          rw [decide_eq_false hf] at qc
          replace hown : Hid (Own 1 iv WE W0.heap.size 2 A m c (folE (es.take (k + 1)) ls r s)) := by show Own _ _ _ _ _ _ _ _ _; rw [hsu]; simpa using hown.out
          clear hx hr hh hf hany hsb hsu
          go_wp2_with (first
            | (go_at_call 193; (with_reducible refine qc.out.mono ?_); rintro e w' ⟨rfl, rfl⟩))
          go_roundw
          case rel => exact ⟨k + 1, m, c, A, by omega, rfl, by go_num, hm, hown, hbB.out⟩
          case measure => simp [intOf]; omega
      · obtain ⟨hne1, hne2⟩ := str_list_ne (a := lab) (b := r) (fun e => hrl e.symm)
        rw [hh, decide_eq_false hrl, Bool.and_false] at hsu
        replace hown : Hid (Own 1 iv WE W0.heap.size 2 A m c (folE (es.take (k + 1)) ls lab s)) := by show Own _ _ _ _ _ _ _ _ _; rw [hsu]; simpa using hown.out
        clear hx hr hh hany hsb hsu hrl
        go_wp2_with fail
        go_roundw
        case rel => exact ⟨k + 1, m, c, A, by omega, rfl, by go_num, hm, hown, hbB.out⟩
        case measure => simp [intOf]; omega
    · have hkn : k = n3 := by omega
      have hall : es.take k = es := List.take_of_length_le (by rw [l3.out, hkn]; exact Nat.le_refl _)
      rw [hall] at hown
      have q1 := hide (sort_short A m c hm wr)
      have q2 := hide (compact_short A m c hm wr)
      clear t1 t2 t3
      go_wp2_with fail
      refine q1.out.mono ?_
      rintro e w1 ⟨rfl, rfl⟩
      go_wp2_with fail
      refine q2.out.mono ?_
      rintro e w1 ⟨rfl, rfl⟩
      go_wp2_with fail
      go_ret
      exact ⟨A, m, c, rfl, (hown.out.sl flat_iv).more (by omega) (Nat.le_refl _), hm, hwb⟩

set_option maxRecDepth 100000 in
set_option maxHeartbeats 800000 in
theorem step_calls (s0 s1 : Int) (A2 : Option Addr) (n2 k2 : Nat) (A3 : Option Addr) (n3 k3 : Nat) (s : Int) (lab : ByteArray) (ls : List ByteArray) (es : List Ed) (w : World) (lo hi : Nat)
    (t2 : SlS w lo hi A2 n2 ls) (t3 : SlE w lo hi A3 n3 es) (hes : n3 ≤ 1048576) (hval : detV (s0, s1, ls, es) = true) :
    Calls Tryz.prog 156 #[.agg #[.int .i64 s0, .int .i64 s1, .slice A2 n2 k2, .slice A3 n3 k3], .int .i64 s, .string lab] w fun e w' => e = .returned (.int .i64 (goE es ls lab s)) ∧ Below w.heap.size w w' := by
  have hlts : Hid (ltsV (s0, s1, ls, es) = true) := by unfold detV at hval; rw [Bool.and_eq_true] at hval; exact hval.1
  have hbW : Below w.heap.size w (w.alloc (.cells #[.int .i64 s0, .int .i64 s1, .slice A2 n2 k2, .slice A3 n3 k3] 27)) := (Below.refl _ _).alloc (Nat.le_refl _) _
  have hbW2 : Below w.heap.size w ((w.alloc (.cells #[.int .i64 s0, .int .i64 s1, .slice A2 n2 k2, .slice A3 n3 k3] 27)).alloc (.cells #[.int .i64 s] 2)) := hbW.alloc (by rw [World.size_alloc]; omega) _
  by_cases hs : s < 0
  · have hv : Hid (goE es ls lab s = -1) := goE_none (fol_neg hlts.out hs)
    replace hbW := hide hbW
    clear hbW2 t2 t3 hval
    go_enter Tryz.func156, Tryz.ntmps156
    go_wp2_with fail
    go_ret
    exact ⟨ret_i (by rw [hv.out]), hbW.out⟩
  have q := follow_calls s0 s1 A2 n2 k2 A3 n3 k3 (some ⟨(w.alloc (.cells #[.int .i64 s0, .int .i64 s1, .slice A2 n2 k2, .slice A3 n3 k3] 27)).heap.size, 0, none⟩) 1 s lab ls es _ lo hi 0 _ (t2.below hbW2 (.inr (Nat.le_refl _))) (t3.below hbW2 (.inr (Nat.le_refl _))) (Sl.lit1' _ 2 s _ rfl 1 _ rfl) hes hval
  rw [World.size_alloc] at q
  replace q := hide q
  have hbz := hbW2.size
  replace hbW2 := hide hbW2
  clear hbW t2 t3 hval
  go_enter Tryz.func156, Tryz.ntmps156
  go_wp2_with fail
  refine q.out.mono ?_
  rintro e w1 ⟨A, n, c, rfl, hsl, hn, hb⟩
  have hbw := hide (hbW2.out.trans (hb.mono hbz))
  have hlen := hsl.len
  clear hb q
  by_cases h0 : n = 0
  · have hv : Hid (goE es ls lab s = -1) := goE_none (List.eq_nil_of_length_eq_zero (by omega))
    subst h0
    clear hlen hsl
    go_wp2_with fail
    go_ret
    exact ⟨ret_i (by rw [hv.out]), hbw.out⟩
  · have h1 : n = 1 := by omega
    subst h1
    obtain ⟨b, off, x, rfl, -, -, -, hx, p0, -⟩ := SlI.get hsl (show 0 < 1 by omega)
    simp only [Nat.add_zero] at p0
    have hv : Hid (goE es ls lab s = x) := by
      show _ = _
      unfold goE
      cases hf : folE es ls lab s with
      | nil => rw [hf] at hx; simp at hx
      | cons a t => rw [hf] at hx; simpa using hx
    clear hlen hsl hx
    go_wp2_with fail
    go_ret
    exact ⟨ret_i (by rw [hv.out]), hbw.out⟩

end Go.Proofs.YtnhomkmfbngmgaaGreatDoor
