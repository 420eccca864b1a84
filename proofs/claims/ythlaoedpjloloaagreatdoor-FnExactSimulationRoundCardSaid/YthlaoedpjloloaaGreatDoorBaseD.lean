/-
  Several texts in one:
  The program's small tests on edges and states. Conditions: sizes.
  The program's test of a system. Conditions: sizes.
  The program's test of a deterministic system, and of monitors. Conditions: sizes.
  The reference's test of monitors. Conditions: sizes.
  The program's test of monitors. Conditions: sizes.
  Monitors as arguments of a law: words, sizes, copying, comparing. Conditions: sizes.
  A world that meets the rows' condition on the library's variables, and what the condition gives. Conditions: none.
  What the rows' condition on the library's variables gives a walk; opening of systems as arguments. Conditions: none.
  Lists of texts as arguments of a law: sizes, copying, comparing, opening. Conditions: sizes.
-/
import Derived.Test.YthlaoedpjloloaaGreatDoorBaseC
import Derived.Deep.RegionHeld3
import Derived.Test.YthlaoedpjloloaaGreatDoorBaseB
import Derived.LaidMore
import Derived.LaidLaws
import Derived.HandedShaped
import Derived.Stop.LaidErr
import Derived.Lib.LaidTab
namespace Go.Proofs.YthlaoedpjloloaaGreatDoor
open Go.ChangeShapes Go.WideShapes Go.ChangeAt Go.RowKit Go.Sort
set_option linter.unusedVariables false

theorem isNaN_calls (x : Int) (w : World) : Calls Tryz.prog 140 #[.int .i64 x] w fun e w' => e = .returned (.bool false) ∧ w = w' := by
  go_enter Tryz.func140, Tryz.ntmps140
  go_wp2
  go_ret
  exact ⟨by simp, rfl⟩
def cmpI (x y : Int) : Int := if x < y then -1 else if y < x then 1 else 0
theorem compare_calls (x y : Int) (w : World) : Calls Tryz.prog 122 #[.int .i64 x, .int .i64 y] w fun e w' => e = .returned (.int .i64 (cmpI x y)) ∧ w = w' := by
  have q := hide isNaN_calls
  by_cases h1 : x < y
  · have hv : Hid (cmpI x y = -1) := by show _ = _; unfold cmpI; rw [if_pos h1]
    go_enter Tryz.func122, Tryz.ntmps122
    go_wp2_with (first | (go_at_call 140; (with_reducible refine (q.out _ _).mono ?_); rintro e w' ⟨rfl, rfl⟩))
    go_ret
    exact ⟨ret_i (by rw [hv.out]), rfl⟩
  · by_cases h2 : y < x
    · have hv : Hid (cmpI x y = 1) := by show _ = _; unfold cmpI; rw [if_neg h1, if_pos h2]
      go_enter Tryz.func122, Tryz.ntmps122
      go_wp2_with (first | (go_at_call 140; (with_reducible refine (q.out _ _).mono ?_); rintro e w' ⟨rfl, rfl⟩))
      go_ret
      exact ⟨ret_i (by rw [hv.out]), rfl⟩
    · have hv : Hid (cmpI x y = 0) := by show _ = _; unfold cmpI; rw [if_neg h1, if_neg h2]
      go_enter Tryz.func122, Tryz.ntmps122
      go_wp2_with (first | (go_at_call 140; (with_reducible refine (q.out _ _).mono ?_); rintro e w' ⟨rfl, rfl⟩))
      go_ret
      exact ⟨ret_i (by rw [hv.out]), rfl⟩

def orF (l : List Int) : Int := (l.find? fun x => decide (x ≠ 0)).getD 0
theorem orF_hit {l : List Int} {k : Nat} {x : Int} (hx : l[k]? = some x) (h0 : x ≠ 0) (hn : ∀ j y, j < k → l[j]? = some y → y = 0) : orF l = x := by
  unfold orF
  have key : ∀ (l : List Int) (k : Nat), l[k]? = some x → (∀ j y, j < k → l[j]? = some y → y = 0) → l.find? (fun x => decide (x ≠ 0)) = some x := by
    intro l
    induction l with
    | nil => intro k h _; simp at h
    | cons y l ih =>
      intro k h hn
      cases k with
      | zero =>
        simp at h
        subst h
        simp [h0]
      | succ k =>
        have hy := hn 0 y (by omega) rfl
        subst hy
        simp only [List.find?_cons]
        simp
        have := ih k (by simpa using h) (fun j z hj hz => hn (j + 1) z (by omega) (by simpa using hz))
        simpa using this
  rw [key l k hx hn]
  rfl
theorem orF_miss {l : List Int} (hn : ∀ (j : Nat) y, l[j]? = some y → y = 0) : orF l = 0 := by
  unfold orF
  have : l.find? (fun x => decide (x ≠ 0)) = none := by
    rw [List.find?_eq_none]
    intro x hx
    obtain ⟨j, hj⟩ := List.getElem?_of_mem hx
    simp [hn j x hj]
  rw [this]
  rfl
theorem or_calls (A : Option Addr) (n c : Nat) (l : List Int) (w : World) (lo hi : Nat) (h : SlI w lo hi A n l) (hn : n ≤ 1048576) :
    Calls Tryz.prog 121 #[.slice A n c] w fun e w' => e = .returned (.int .i64 (orF l)) ∧ w = w' := by
  have hlen := hide h.len
  replace h := hide h
  go_enter Tryz.func121, Tryz.ntmps121
  go_wp2
  go_loop [8] (fun i => ∃ k : Nat, k ≤ n ∧ i = .int .i64 k ∧ Hid (∀ j y, j < k → l[j]? = some y → y = 0)) (fun i => n - (intOf i).toNat)
  case atStart => exact ⟨0, Nat.zero_le _, rfl, fun j y hj => absurd hj (by omega)⟩
  case round =>
    obtain ⟨k, hk, rfl, ha⟩ := hrel
    by_cases hlt : k < n
    · obtain ⟨b, off, x, rfl, g1, g2, g3, hx, c0, -⟩ := SlI.get h.out hlt
      by_cases h0 : x = 0
      · have hnext : Hid (∀ j y, j < k + 1 → l[j]? = some y → y = 0) := fun j y hj hy => by
          rcases Nat.lt_or_ge j k with h1 | h1
          · exact ha.out j y h1 hy
          · have hjk : j = k := by omega
            rw [hjk, hx] at hy
            rw [← Option.some.inj hy, h0]
        subst h0
        clear h hx ha
        go_wp2
        go_round
        case rel => exact ⟨k + 1, by omega, by go_num, hnext⟩
        case measure => simp [intOf]; omega
      · have hv : Hid (orF l = x) := orF_hit hx h0 ha.out
        have hb : (x == 0) = false := by rw [beq_eq_false_iff_ne]; exact h0
        clear h hx ha h0
        go_wp2
        go_ret
        exact ⟨ret_i (by rw [hv.out]), rfl⟩
    · have hkn : k = n := by omega
      have hv : Hid (orF l = 0) := orF_miss fun j y hy => ha.out j y (by rw [hkn, ← hlen.out]; exact (List.getElem?_eq_some_iff.1 hy).1) hy
      subst hkn
      go_wp2
      go_ret
      exact ⟨ret_i (by rw [hv.out]), rfl⟩
def cmpE (a b : Ed) : Int := orF [cmpI a.1 b.1, cmpI a.2.1 b.2.1, cmpI a.2.2 b.2.2]
theorem cmpE_less (a b : Ed) : decide (0 ≤ cmpE a b) = !(edLess a b) := by
  obtain ⟨a1, a2, a3⟩ := a
  obtain ⟨b1, b2, b3⟩ := b
  have key : ∀ x y : Int, (x < y ∧ cmpI x y = -1) ∨ (x = y ∧ cmpI x y = 0) ∨ (y < x ∧ cmpI x y = 1) := fun x y => by
    unfold cmpI
    rcases Int.lt_trichotomy x y with h | h | h
    · exact .inl ⟨h, if_pos h⟩
    · exact .inr (.inl ⟨h, by rw [if_neg (by omega), if_neg (by omega)]⟩)
    · exact .inr (.inr ⟨h, by rw [if_neg (by omega), if_pos h]⟩)
  unfold cmpE edLess orF
  dsimp only
  rcases key a1 b1 with ⟨h1, e1⟩ | ⟨h1, e1⟩ | ⟨h1, e1⟩
  · have : a1 ≠ b1 := by omega
    rw [e1]
    simp [this, h1]
  · rcases key a2 b2 with ⟨h2, e2⟩ | ⟨h2, e2⟩ | ⟨h2, e2⟩
    · have : a2 ≠ b2 := by omega
      rw [e1, e2]
      simp [h1, this, h2]
    · rcases key a3 b3 with ⟨h3, e3⟩ | ⟨h3, e3⟩ | ⟨h3, e3⟩
      · rw [e1, e2, e3]
        simp [h1, h2, h3]
      · rw [e1, e2, e3]
        simp [h1, h2, h3]
      · have : b3 ≤ a3 := by omega
        rw [e1, e2, e3]
        simp [h1, h2, this]
    · have n2 : a2 ≠ b2 := by omega
      have : b2 ≤ a2 := by omega
      rw [e1, e2]
      simp [h1, n2, this]
  · have n1 : a1 ≠ b1 := by omega
    have : b1 ≤ a1 := by omega
    rw [e1]
    simp [n1, this]

theorem or3_calls (b : Nat) (c1 c2 c3 : Int) (t : TypeId) (w : World) (hb : w.heap[b]? = some (.cells #[.int .i64 c1, .int .i64 c2, .int .i64 c3] t (0, 0))) :
    Calls Tryz.prog 121 #[.slice (some ⟨b, 0, none⟩) 3 3] w fun e w' => e = .returned (.int .i64 (orF [c1, c2, c3])) ∧ w = w' := by
  have hlt : b < w.heap.size := (Array.getElem?_eq_some_iff.1 hb).1
  refine or_calls _ 3 3 [c1, c2, c3] w 0 w.heap.size ⟨rfl, fun _ => ⟨b, 0, rfl, Nat.zero_le _, hlt, hlt, fun k x hx j u hu => ?_⟩⟩ (by omega)
  match j, hu with
  | 0, hu =>
    simp [iv] at hu
    subst hu
    simp only [Nat.zero_add, Nat.mul_one, Nat.add_zero]
    refine ⟨(cell_of_row _ _ k _ t (0, 0) hb).trans ?_, frozen_of_row _ _ _ _ t hb⟩
    match k, hx with
    | 0, hx => cases hx; rfl
    | 1, hx => cases hx; rfl
    | 2, hx => cases hx; rfl
    | k + 3, hx => simp at hx

theorem isState_calls (s0 s1 k : Int) (v2 v3 : Value) (w : World) (h1 : 1 ≤ s0) (h2 : s0 ≤ 40) :
    Calls Tryz.prog 93 #[.agg #[.int .i64 s0, .int .i64 s1, v2, v3], .int .i64 k] w fun e w' => e = .returned (.bool (inB k 0 (s0 - 1))) ∧ Below w.heap.size w w' := by
  have hb0 : Below w.heap.size w (w.alloc (.cells #[.int .i64 s0, .int .i64 s1, v2, v3] 31)) := (Below.refl _ _).alloc (Nat.le_refl _) _
  have q := hide (fun W => within_calls k 0 (s0 - 1) W)
  replace hb0 := hide hb0
  go_enter Tryz.func93, Tryz.ntmps93
  go_wp2_with (first | (go_at_call 84; (with_reducible refine (q.out _).mono ?_); rintro e w' ⟨rfl, rfl⟩))
  go_ret
  exact ⟨rfl, hb0.out⟩

set_option maxRecDepth 100000 in
set_option maxHeartbeats 1600000 in
theorem compareEdges_calls (x1 x2 x3 y1 y2 y3 : Int) (w : World) :
    Calls Tryz.prog 96 #[.agg #[.int .i64 x1, .int .i64 x2, .int .i64 x3], .agg #[.int .i64 y1, .int .i64 y2, .int .i64 y3]] w fun e w' => e = .returned (.int .i64 (cmpE (x1, x2, x3) (y1, y2, y3))) ∧ Below w.heap.size w w' := by
  have hv : Hid (cmpE (x1, x2, x3) (y1, y2, y3) = orF [cmpI x1 y1, cmpI x2 y2, cmpI x3 y3]) := rfl
  have hbA : Below w.heap.size w ((w.alloc (.cells #[.int .i64 x1, .int .i64 x2, .int .i64 x3] 99)).alloc (.cells #[.int .i64 y1, .int .i64 y2, .int .i64 y3] 99)) := ((Below.refl _ _).alloc (Nat.le_refl _) _).alloc (by simp only [World.size_alloc]; omega) _
  have k0 := (Below.heap_alloc (w.alloc (.cells #[.int .i64 x1, .int .i64 x2, .int .i64 x3] 99)) (.cells #[.int .i64 y1, .int .i64 y2, .int .i64 y3] 99) w.heap.size (by simp only [World.size_alloc]; omega)).trans (heap_alloc_new w (.cells #[.int .i64 x1, .int .i64 x2, .int .i64 x3] 99))
  have k1 := heap_alloc_new (w.alloc (.cells #[.int .i64 x1, .int .i64 x2, .int .i64 x3] 99)) (.cells #[.int .i64 y1, .int .i64 y2, .int .i64 y3] 99)
  rw [World.size_alloc] at k1
  have q := hide compare_calls
  replace hbA := hide hbA
  replace k0 := hide k0
  replace k1 := hide k1
  go_enter Tryz.func96, Tryz.ntmps96
  go_wp2_with fail
  generalize hW : ((w.alloc (.cells #[.int .i64 x1, .int .i64 x2, .int .i64 x3] 99)).alloc (.cells #[.int .i64 y1, .int .i64 y2, .int .i64 y3] 99)) = W at *
  have a0 : W.cell? ⟨w.heap.size, 0, none⟩ = some (.int .i64 x1) := (cell_of_row _ _ 0 _ _ (0, 0) k0.out).trans rfl
  have a1 : W.cell? ⟨w.heap.size, 1, none⟩ = some (.int .i64 x2) := (cell_of_row _ _ 1 _ _ (0, 0) k0.out).trans rfl
  have a2 : W.cell? ⟨w.heap.size, 2, none⟩ = some (.int .i64 x3) := (cell_of_row _ _ 2 _ _ (0, 0) k0.out).trans rfl
  have b0 : W.cell? ⟨w.heap.size + 1, 0, none⟩ = some (.int .i64 y1) := (cell_of_row _ _ 0 _ _ (0, 0) k1.out).trans rfl
  have b1 : W.cell? ⟨w.heap.size + 1, 1, none⟩ = some (.int .i64 y2) := (cell_of_row _ _ 1 _ _ (0, 0) k1.out).trans rfl
  have b2 : W.cell? ⟨w.heap.size + 1, 2, none⟩ = some (.int .i64 y3) := (cell_of_row _ _ 2 _ _ (0, 0) k1.out).trans rfl
  clear hW
  go_region_held3 (fun w' => w'.cell? ⟨w.heap.size, 0, none⟩ = some (.int .i64 x1) ∧ w'.cell? ⟨w.heap.size, 1, none⟩ = some (.int .i64 x2) ∧ w'.cell? ⟨w.heap.size, 2, none⟩ = some (.int .i64 x3) ∧ w'.cell? ⟨w.heap.size + 1, 0, none⟩ = some (.int .i64 y1) ∧ w'.cell? ⟨w.heap.size + 1, 1, none⟩ = some (.int .i64 y2) ∧ w'.cell? ⟨w.heap.size + 1, 2, none⟩ = some (.int .i64 y3)) (first | exact ⟨a0, a1, a2, b0, b1, b2⟩ | go_keep)
    (first
      | (go_at_call 122; (with_reducible refine (q.out _ _ _).mono ?_); rintro e w' ⟨rfl, rfl⟩)
      | (go_at_call 121; (refine (or3_calls _ _ _ _ _ _ (by exact heap_alloc_new W _)).mono ?_); rintro e w' ⟨rfl, rfl⟩))
  all_goals go_wp2
  all_goals go_ret
  all_goals first | exact ⟨ret_i (by rw [hv.out]), hbA.out.drew.alloc hbA.out.size _⟩ | exact ⟨ret_i (by rw [hv.out]), (hbA.out.alloc hbA.out.size _).drew⟩

end Go.Proofs.YthlaoedpjloloaaGreatDoor

namespace Go.Proofs.YthlaoedpjloloaaGreatDoor
open Go.ChangeShapes Go.WideShapes Go.ChangeAt Go.RowKit Go.Sort
set_option linter.unusedVariables false

theorem okL_at2 {l : List ByteArray} {k : Nat} {x y : ByteArray} (hx : l[k]? = some x) (hk : 0 < k) (hy : l[k - 1]? = some y) : okL l k = ((labS x && !(decide (x = tauB))) && (decide (k ≤ 1) || !(Op.bytesLess x.toList y.toList || x.toList == y.toList))) := by
  rw [okL_at hx hk hy, bytesLess_total]
  rfl
theorem okL_bad {l : List ByteArray} {k : Nat} {x : ByteArray} (hx : l[k]? = some x) (h : labS x = false) : okL l k = false := by
  show okLab labS sLess l k = _
  unfold okLab
  rw [hx]
  simp [h]

set_option maxRecDepth 100000 in
set_option maxHeartbeats 3200000 in
theorem validLts_calls (x : CL) (d : DL) (w : World) (lo hi : Nat) (h : ReadL w lo hi x d) (htot : totL d ≤ 1048576) (he : Env w) :
    Calls Tryz.prog 59 #[.agg #[.int .i64 x.1, .int .i64 x.2.1, x.2.2.1, x.2.2.2]] w fun e w' => e = .returned (.bool (ltsV d)) ∧ Below w.heap.size w w' := by
  obtain ⟨s0, s1, v2, v3⟩ := x
  obtain ⟨st, ini, ls, es⟩ := d
  obtain ⟨e0, e1, ⟨A2, n2, k2, e2, hn2, hs2, t2⟩, ⟨A3, n3, k3, e3, hn3, t3⟩⟩ := h
  dsimp only at *
  subst e0 e1 e2 e3
  have l2 := t2.len
  have l3 := t3.len
  have hls : n2 ≤ 1048576 := by rw [← l2]; exact Nat.le_trans (totL_lab (s0, s1, ls, es)) htot
  have hes : n3 ≤ 1048576 := by rw [← l3]; exact Nat.le_trans (totL_edg (s0, s1, ls, es)) htot
  have hss : Hid (∀ s ∈ ls, s.size ≤ 1048576) := fun s hs => by
    have h1 : s.size ≤ (ls.map (·.size)).sum := mem_le_sum (List.mem_map.2 ⟨s, hs, rfl⟩)
    simp only [totL, totS] at htot
    omega
  have hval : ltsV (s0, s1, ls, es) = ((inB s0 1 40 && inB s1 0 (s0 - 1) && inB (n2 : Int) 1 12 && decide (n3 ≤ 300)) && (allK (okL ls) n2 && allK (okEd s0 (n2 : Int) es) n3)) := by rw [← l2, ← l3]; rfl
  replace l2 := hide l2
  replace l3 := hide l3
  replace t2 := hide t2
  replace t3 := hide t3
  have hW0 := hide ((Below.refl w.heap.size w).alloc (Nat.le_refl _) (.cells #[.int .i64 s0, .int .i64 s1, .slice A2 n2 k2, .slice A3 n3 k3] 31))
  have kE := heap_alloc_new w (.cells #[.int .i64 s0, .int .i64 s1, .slice A2 n2 k2, .slice A3 n3 k3] 31)
  have hbt : w.heap.size < (w.alloc (.cells #[.int .i64 s0, .int .i64 s1, .slice A2 n2 k2, .slice A3 n3 k3] 31)).heap.size := by rw [World.size_alloc]; omega
  replace he := hide he
  have hbt1 : w.heap.size + 1 ≤ (w.alloc (.cells #[.int .i64 s0, .int .i64 s1, .slice A2 n2 k2, .slice A3 n3 k3] 31)).heap.size := hbt
  clear htot hs2 hn2 hn3
  go_enter Tryz.func59, Tryz.ntmps59
  go_upto_region 1 with fail
  have c0 : (w.alloc (.cells #[.int .i64 s0, .int .i64 s1, .slice A2 n2 k2, .slice A3 n3 k3] 31)).cell? ⟨w.heap.size, 0, none⟩ = some (.int .i64 s0) := (cell_of_row _ _ 0 _ _ (0, 0) kE).trans rfl
  have c1 : (w.alloc (.cells #[.int .i64 s0, .int .i64 s1, .slice A2 n2 k2, .slice A3 n3 k3] 31)).cell? ⟨w.heap.size, 1, none⟩ = some (.int .i64 s1) := (cell_of_row _ _ 1 _ _ (0, 0) kE).trans rfl
  have c2 : (w.alloc (.cells #[.int .i64 s0, .int .i64 s1, .slice A2 n2 k2, .slice A3 n3 k3] 31)).cell? ⟨w.heap.size, 2, none⟩ = some (.slice A2 n2 k2) := (cell_of_row _ _ 2 _ _ (0, 0) kE).trans rfl
  have c3 : (w.alloc (.cells #[.int .i64 s0, .int .i64 s1, .slice A2 n2 k2, .slice A3 n3 k3] 31)).cell? ⟨w.heap.size, 3, none⟩ = some (.slice A3 n3 k3) := (cell_of_row _ _ 3 _ _ (0, 0) kE).trans rfl
  clear kE
  generalize hWW : (w.alloc (.cells #[.int .i64 s0, .int .i64 s1, .slice A2 n2 k2, .slice A3 n3 k3] 31)) = W0 at *
  clear hWW
  cases z0 : inB s0 1 40 with
  | false =>
    rw [z0] at hval
    have hv : Hid (ltsV (s0, s1, ls, es) = false) := hval
    clear hval
    go_wp2_with (first | (go_at_call 84; (with_reducible refine (within_calls _ _ _ _).mono ?_); rintro e w' ⟨rfl, rfl⟩))
    go_ret
    exact ⟨ret_b (by rw [hv.out]), hW0.out⟩
  | true =>
  have hst := inB_true.1 z0
  have hst1 := hst.1
  have hst2 := hst.2
  clear hst
  rw [z0] at hval
  cases z1 : inB s1 0 (s0 - 1) with
  | false =>
    rw [z1] at hval
    have hv : Hid (ltsV (s0, s1, ls, es) = false) := hval
    clear hval
    go_wp2_with (first | (go_at_call 84; (with_reducible refine (within_calls _ _ _ _).mono ?_); rintro e w' ⟨rfl, rfl⟩) | (go_at_call 93; (with_reducible refine (isState_calls _ _ _ _ _ _ hst1 hst2).mono ?_); rintro e w1 ⟨rfl, hb1⟩; have a2 := (hb1.cell (p := ⟨w.heap.size, 2, none⟩) hbt).trans c2; have a3 := (hb1.cell (p := ⟨w.heap.size, 3, none⟩) hbt).trans c3; replace hb1 := hide hb1))
    go_ret
    exact ⟨ret_b (by rw [hv.out]), hW0.out.trans (hb1.out.mono (Nat.le_of_lt hbt))⟩
  | true =>
  rw [z1] at hval
  cases z2 : inB (n2 : Int) 1 12 with
  | false =>
    rw [z2] at hval
    have hv : Hid (ltsV (s0, s1, ls, es) = false) := hval
    clear hval
    go_wp2_with (first | (go_at_call 84; (with_reducible refine (within_calls _ _ _ _).mono ?_); rintro e w' ⟨rfl, rfl⟩) | (go_at_call 93; (with_reducible refine (isState_calls _ _ _ _ _ _ hst1 hst2).mono ?_); rintro e w1 ⟨rfl, hb1⟩; have a2 := (hb1.cell (p := ⟨w.heap.size, 2, none⟩) hbt).trans c2; have a3 := (hb1.cell (p := ⟨w.heap.size, 3, none⟩) hbt).trans c3; replace hb1 := hide hb1))
    go_ret
    exact ⟨ret_b (by rw [hv.out]), hW0.out.trans (hb1.out.mono (Nat.le_of_lt hbt))⟩
  | true =>
  rw [z2] at hval
  by_cases h300 : n3 ≤ 300
  case neg =>
    rw [decide_eq_false h300] at hval
    have hv : Hid (ltsV (s0, s1, ls, es) = false) := hval
    have h3I : (300 : Int) < (n3 : Int) := by omega
    clear hval
    go_wp2_with (first | (go_at_call 84; (with_reducible refine (within_calls _ _ _ _).mono ?_); rintro e w' ⟨rfl, rfl⟩) | (go_at_call 93; (with_reducible refine (isState_calls _ _ _ _ _ _ hst1 hst2).mono ?_); rintro e w1 ⟨rfl, hb1⟩; have a2 := (hb1.cell (p := ⟨w.heap.size, 2, none⟩) hbt).trans c2; have a3 := (hb1.cell (p := ⟨w.heap.size, 3, none⟩) hbt).trans c3; replace hb1 := hide hb1))
    go_ret
    exact ⟨ret_b (by rw [hv.out]), hW0.out.trans (hb1.out.mono (Nat.le_of_lt hbt))⟩
  rw [decide_eq_true h300] at hval
  have hval2 : Hid (ltsV (s0, s1, ls, es) = (allK (okL ls) n2 && allK (okEd s0 (n2 : Int) es) n3)) := by show _ = _; rw [hval]; rfl
  have h3I : ¬ (300 : Int) < (n3 : Int) := by omega
  clear hval
  go_wp2_with (first | (go_at_call 84; (with_reducible refine (within_calls _ _ _ _).mono ?_); rintro e w' ⟨rfl, rfl⟩) | (go_at_call 93; (with_reducible refine (isState_calls _ _ _ _ _ _ hst1 hst2).mono ?_); rintro e w1 ⟨rfl, hb1⟩; have a2 := (hb1.cell (p := ⟨w.heap.size, 2, none⟩) hbt).trans c2; have a3 := (hb1.cell (p := ⟨w.heap.size, 3, none⟩) hbt).trans c3; replace hb1 := hide hb1))
  have hb1' := hide (hb1.out.mono hbt1)
  clear hb1
  go_loopw [34] (fun i wr => ∃ k : Nat, k ≤ n2 ∧ i = .int .i64 (k : Nat) ∧ Hid (∀ j, j < k → okL ls j = true) ∧ Below (w.heap.size + 1) W0 wr) (fun i _ => n2 - (intOf i).toNat)
  case atStart => exact ⟨0, Nat.zero_le _, rfl, fun j hj => absurd hj (by omega), hb1'.out⟩
  case round =>
    obtain ⟨k, hk, rfl, ha, hb⟩ := hrel
    have hwb := hW0.out.trans (hb.mono (Nat.le_succ _))
    have y2 := (hb.cell (p := ⟨w.heap.size, 2, none⟩) (Nat.lt_succ_self _)).trans c2
    have y3 := (hb.cell (p := ⟨w.heap.size, 3, none⟩) (Nat.lt_succ_self _)).trans c3
    have hgw := Nat.lt_of_lt_of_le hbt hb.size
    clear a2 a3
    by_cases hlt : k < n2
    · obtain ⟨b, off, s, rfl, g1, g2, g3, hx, p0, -⟩ := SlS.get t2.out hlt
      replace p0 := (hwb.cell (p := ⟨b, off + k, none⟩) g3).trans p0
      have hg := Nat.lt_of_lt_of_le g3 hwb.size
      have q := isLabel_calls s wr (hss.out s (List.mem_of_getElem? hx)) (he.out.below hwb (Nat.le_refl _))
      cases hlab : labS s with
      | false =>
        have hv : Hid (ltsV (s0, s1, ls, es) = false) := by show _ = _; rw [hval2.out, allK_bad hlt (okL_bad hx hlab)]; rfl
        rw [hlab] at q
        replace q := hide q
        clear hx ha hlab t2 t3 hss
        go_wp2_with (first | (go_at_call 94; (with_reducible refine q.out.mono ?_); rintro e w2 ⟨rfl, hb2⟩; have m2 := (hb2.cell (p := ⟨w.heap.size, 2, none⟩) hgw).trans y2; have m3 := (hb2.cell (p := ⟨w.heap.size, 3, none⟩) hgw).trans y3; replace hb2 := hide hb2))
        go_ret
        exact ⟨ret_b (by rw [hv.out]), hwb.trans (hb2.out.mono hwb.size)⟩
      | true =>
      rw [hlab] at q
      replace q := hide q
      by_cases hk0 : 0 < k
      · obtain ⟨b', off', r, eA, -, -, -, hy, p1, -⟩ := SlS.get t2.out (show k - 1 < n2 by omega)
        cases eA
        replace p1 := (hwb.cell (p := ⟨b, off + (k - 1), none⟩) g3).trans p1
        have hok := okL_at2 hx hk0 hy
        rw [hlab] at hok
        have hkb : ((k : Int) == 0) = false := by rw [beq_eq_false_iff_ne]; omega
        clear hx hy hlab
        by_cases htx : s = tauB
        · have hv : Hid (ltsV (s0, s1, ls, es) = false) := by show _ = _; rw [hval2.out, allK_bad hlt (by rw [hok, decide_eq_true htx]; rfl)]; rfl
          have htt : (s.toList == [116, 97, 117]) = true := by rw [htx, tau_list]; rfl
          clear ha hok htx t2 t3 hss
          go_wp2_with (first | (go_at_call 94; (with_reducible refine q.out.mono ?_); rintro e w2 ⟨rfl, hb2⟩; have m2 := (hb2.cell (p := ⟨w.heap.size, 2, none⟩) hgw).trans y2; have m3 := (hb2.cell (p := ⟨w.heap.size, 3, none⟩) hgw).trans y3; have m4 := (hb2.cell (p := ⟨b, off + (k - 1), none⟩) hg).trans p1; replace hb2 := hide hb2))
          go_ret
          exact ⟨ret_b (by rw [hv.out]), hwb.trans (hb2.out.mono hwb.size)⟩
        have hne := tau_ne htx
        rw [decide_eq_false htx] at hok
        by_cases h1 : k = 1
        · have hnext : Hid (∀ j, j < k + 1 → okL ls j = true) := lt_succ_cases ha.out (by rw [hok, h1]; rfl)
          have h1I : ¬ (1 : Int) < (k : Int) := by omega
          replace h1 := hide h1
          clear ha hok htx
          go_wp2_with (first | (go_at_call 94; (with_reducible refine q.out.mono ?_); rintro e w2 ⟨rfl, hb2⟩; have m2 := (hb2.cell (p := ⟨w.heap.size, 2, none⟩) hgw).trans y2; have m3 := (hb2.cell (p := ⟨w.heap.size, 3, none⟩) hgw).trans y3; have m4 := (hb2.cell (p := ⟨b, off + (k - 1), none⟩) hg).trans p1; replace hb2 := hide hb2))
          go_roundw
          case rel => exact ⟨k + 1, by omega, by go_num, hnext, hb.trans (hb2.out.mono hgw)⟩
          case measure => simp [intOf]; omega
        · have h1I : (1 : Int) < (k : Int) := by omega
          cases hsl : (Op.bytesLess s.toList r.toList || s.toList == r.toList) with
          | false =>
            have hnext : Hid (∀ j, j < k + 1 → okL ls j = true) := lt_succ_cases ha.out (by rw [hok, hsl]; simp)
            have hs1 : Op.bytesLess s.toList r.toList = false := (Bool.or_eq_false_iff.1 hsl).1
            have hs2 : (s.toList == r.toList) = false := (Bool.or_eq_false_iff.1 hsl).2
            clear ha hok htx hsl h1
            go_wp2_with (first | (go_at_call 94; (with_reducible refine q.out.mono ?_); rintro e w2 ⟨rfl, hb2⟩; have m2 := (hb2.cell (p := ⟨w.heap.size, 2, none⟩) hgw).trans y2; have m3 := (hb2.cell (p := ⟨w.heap.size, 3, none⟩) hgw).trans y3; have m4 := (hb2.cell (p := ⟨b, off + (k - 1), none⟩) hg).trans p1; replace hb2 := hide hb2))
            go_roundw
            case rel => exact ⟨k + 1, by omega, by go_num, hnext, hb.trans (hb2.out.mono hgw)⟩
            case measure => simp [intOf]; omega
          | true =>
            have hv : Hid (ltsV (s0, s1, ls, es) = false) := by show _ = _; rw [hval2.out, allK_bad hlt (by rw [hok, hsl, decide_eq_false (show ¬ k ≤ 1 by omega)]; rfl)]; rfl
            clear ha hok htx h1 t2 t3 hss
            cases hs1 : Op.bytesLess s.toList r.toList with
            | true =>
              clear hsl
              go_wp2_with (first | (go_at_call 94; (with_reducible refine q.out.mono ?_); rintro e w2 ⟨rfl, hb2⟩; have m2 := (hb2.cell (p := ⟨w.heap.size, 2, none⟩) hgw).trans y2; have m3 := (hb2.cell (p := ⟨w.heap.size, 3, none⟩) hgw).trans y3; have m4 := (hb2.cell (p := ⟨b, off + (k - 1), none⟩) hg).trans p1; replace hb2 := hide hb2))
              go_ret
              exact ⟨ret_b (by rw [hv.out]), hwb.trans (hb2.out.mono hwb.size)⟩
            | false =>
              have hs2 : (s.toList == r.toList) = true := by rw [hs1] at hsl; exact hsl
              clear hsl
              go_wp2_with (first | (go_at_call 94; (with_reducible refine q.out.mono ?_); rintro e w2 ⟨rfl, hb2⟩; have m2 := (hb2.cell (p := ⟨w.heap.size, 2, none⟩) hgw).trans y2; have m3 := (hb2.cell (p := ⟨w.heap.size, 3, none⟩) hgw).trans y3; have m4 := (hb2.cell (p := ⟨b, off + (k - 1), none⟩) hg).trans p1; replace hb2 := hide hb2))
              go_ret
              exact ⟨ret_b (by rw [hv.out]), hwb.trans (hb2.out.mono hwb.size)⟩
      · have hk00 : k = 0 := by omega
        subst hk00
        have hok := okL_zero hx
        simp only [Nat.add_zero] at p0
        clear hx hlab
        by_cases htx : s = tauB
        · have hnext : Hid (∀ j, j < 0 + 1 → okL ls j = true) := lt_succ_cases ha.out (by rw [hok, decide_eq_true htx])
          have htt : (s.toList == [116, 97, 117]) = true := by rw [htx, tau_list]; rfl
          clear ha hok htx
          go_wp2_with (first | (go_at_call 94; (with_reducible refine q.out.mono ?_); rintro e w2 ⟨rfl, hb2⟩; have m2 := (hb2.cell (p := ⟨w.heap.size, 2, none⟩) hgw).trans y2; have m3 := (hb2.cell (p := ⟨w.heap.size, 3, none⟩) hgw).trans y3; replace hb2 := hide hb2))
          go_roundw
          case rel => exact ⟨0 + 1, by omega, by go_num, hnext, hb.trans (hb2.out.mono hgw)⟩
          case measure => simp [intOf]; omega
        · have hv : Hid (ltsV (s0, s1, ls, es) = false) := by show _ = _; rw [hval2.out, allK_bad hlt (by rw [hok, decide_eq_false htx])]; rfl
          have hne := tau_ne htx
          clear ha hok htx t2 t3 hss
          go_wp2_with (first | (go_at_call 94; (with_reducible refine q.out.mono ?_); rintro e w2 ⟨rfl, hb2⟩; have m2 := (hb2.cell (p := ⟨w.heap.size, 2, none⟩) hgw).trans y2; have m3 := (hb2.cell (p := ⟨w.heap.size, 3, none⟩) hgw).trans y3; replace hb2 := hide hb2))
          go_ret
          exact ⟨ret_b (by rw [hv.out]), hwb.trans (hb2.out.mono hwb.size)⟩
    · have hkn : n2 = k := by omega
      have hall : allK (okL ls) n2 = true := allK_good (by rw [hkn]; exact ha.out)
      have hval3 : Hid (ltsV (s0, s1, ls, es) = allK (okEd s0 (n2 : Int) es) n3) := by show _ = _; rw [hval2.out, hall]; rfl
      subst hkn
      clear hval2 hall ha t2 hss
      go_wp2_with fail
      go_loopw [67] (fun i wr2 => ∃ k2 : Nat, k2 ≤ n3 ∧ i = .int .i64 (k2 : Nat) ∧ Hid (∀ j, j < k2 → okEd s0 (n2 : Int) es j = true) ∧ Below (w.heap.size + 1) W0 wr2) (fun i _ => n3 - (intOf i).toNat)
      case atStart => exact ⟨0, Nat.zero_le _, rfl, fun j hj => absurd hj (by omega), hb⟩
      case round =>
        clear hb hwb y2 y3 hgw
        obtain ⟨k, hk, rfl, ha, hb⟩ := hrel
        have hwb := hW0.out.trans (hb.mono (Nat.le_succ _))
        have y0 := (hb.cell (p := ⟨w.heap.size, 0, none⟩) (Nat.lt_succ_self _)).trans c0
        have y1 := (hb.cell (p := ⟨w.heap.size, 1, none⟩) (Nat.lt_succ_self _)).trans c1
        have y2 := (hb.cell (p := ⟨w.heap.size, 2, none⟩) (Nat.lt_succ_self _)).trans c2
        have y3 := (hb.cell (p := ⟨w.heap.size, 3, none⟩) (Nat.lt_succ_self _)).trans c3
        have hgt := Nat.lt_of_lt_of_le hbt hb.size
        by_cases hlt : k < n3
        · obtain ⟨b, off, f, lb, tg, rfl, g1, g2, g3, hx, p0, p1, p2, -, -, -⟩ := SlE.get t3.out hlt
          replace p0 := (hwb.cell g3).trans p0
          replace p1 := (hwb.cell (p := ⟨b, off + k * 3 + 1, none⟩) g3).trans p1
          replace p2 := (hwb.cell (p := ⟨b, off + k * 3 + 2, none⟩) g3).trans p2
          have hg := Nat.lt_of_lt_of_le g3 hwb.size
          have hbox : Below wr.heap.size wr (wr.alloc (.cells #[.int .i64 f, .int .i64 lb, .int .i64 tg] 99)) := (Below.refl _ _).alloc (Nat.le_refl _) _
          have kE := heap_alloc_new wr (.cells #[.int .i64 f, .int .i64 lb, .int .i64 tg] 99)
          have x0 := (hbox.cell (p := ⟨w.heap.size, 0, none⟩) hgt).trans y0
          have x1 := (hbox.cell (p := ⟨w.heap.size, 1, none⟩) hgt).trans y1
          have x2 := (hbox.cell (p := ⟨w.heap.size, 2, none⟩) hgt).trans y2
          have x3 := (hbox.cell (p := ⟨w.heap.size, 3, none⟩) hgt).trans y3
          have z0' : (wr.alloc (.cells #[.int .i64 f, .int .i64 lb, .int .i64 tg] 99)).cell? ⟨wr.heap.size, 0, none⟩ = some (.int .i64 f) := (cell_of_row _ _ 0 _ _ (0, 0) kE).trans rfl
          have z1' : (wr.alloc (.cells #[.int .i64 f, .int .i64 lb, .int .i64 tg] 99)).cell? ⟨wr.heap.size, 1, none⟩ = some (.int .i64 lb) := (cell_of_row _ _ 1 _ _ (0, 0) kE).trans rfl
          have z2' : (wr.alloc (.cells #[.int .i64 f, .int .i64 lb, .int .i64 tg] 99)).cell? ⟨wr.heap.size, 2, none⟩ = some (.int .i64 tg) := (cell_of_row _ _ 2 _ _ (0, 0) kE).trans rfl
          have hprev : 0 < k → ∃ r1 r2 r3, es[k - 1]? = some (r1, r2, r3) ∧ (wr.alloc (.cells #[.int .i64 f, .int .i64 lb, .int .i64 tg] 99)).cell? ⟨b, off + (k - 1) * 3, none⟩ = some (.int .i64 r1) ∧ (wr.alloc (.cells #[.int .i64 f, .int .i64 lb, .int .i64 tg] 99)).cell? ⟨b, off + (k - 1) * 3 + 1, none⟩ = some (.int .i64 r2) ∧ (wr.alloc (.cells #[.int .i64 f, .int .i64 lb, .int .i64 tg] 99)).cell? ⟨b, off + (k - 1) * 3 + 2, none⟩ = some (.int .i64 r3) := fun hk0 => by
            obtain ⟨b', off', r1, r2, r3, eA, -, -, -, hy, u0, u1, u2, -, -, -⟩ := SlE.get t3.out (show k - 1 < n3 by omega)
            cases eA
            exact ⟨r1, r2, r3, hy, (hbox.cell hg).trans ((hwb.cell g3).trans u0), (hbox.cell (p := ⟨b, off + (k - 1) * 3 + 1, none⟩) hg).trans ((hwb.cell (p := ⟨b, off + (k - 1) * 3 + 1, none⟩) g3).trans u1), (hbox.cell (p := ⟨b, off + (k - 1) * 3 + 2, none⟩) hg).trans ((hwb.cell (p := ⟨b, off + (k - 1) * 3 + 2, none⟩) g3).trans u2)⟩
          replace hprev := hide hprev
          have hbw := hide (hwb.trans (hbox.mono hwb.size))
          have hbB := hide (hb.trans (hbox.mono hgt))
          have hbBs : Hid (w.heap.size + 1 ≤ (wr.alloc (.cells #[.int .i64 f, .int .i64 lb, .int .i64 tg] 99)).heap.size) := by show _ ≤ _; rw [World.size_alloc]; omega
          have hI0 : (0 : Int) ≤ (k : Int) := by omega
          have hI1 : (k : Int) < (n3 : Int) := by omega
          clear t3 hg g1 g2 g3 y0 y1 y2 hwb hb hbox kE hgt
          go_wp2_with fail
          clear p0 p1 p2 y3
          generalize hWE : (wr.alloc (.cells #[.int .i64 f, .int .i64 lb, .int .i64 tg] 99)) = WE at *
          generalize hbE : wr.heap.size = bE at *
          clear hWE hbE
          have r0 : ∀ d os, Calls Tryz.prog 93 #[.agg #[.int .i64 s0, .int .i64 s1, .slice A2 n2 k2, .slice (some ⟨b, off, none⟩) n3 k3], .int .i64 f] (grow (redrawn WE d) os) (fun e w'' => e = .returned (.bool (inB f 0 (s0 - 1))) ∧ ∃ p : Regrown, w'' = grow (redrawn WE p.d) p.os) := fun d os => Calls.regrown_of (isState_calls s0 s1 f _ _ _ hst1 hst2)
          have r1 : ∀ d os, Calls Tryz.prog 93 #[.agg #[.int .i64 s0, .int .i64 s1, .slice A2 n2 k2, .slice (some ⟨b, off, none⟩) n3 k3], .int .i64 tg] (grow (redrawn WE d) os) (fun e w'' => e = .returned (.bool (inB tg 0 (s0 - 1))) ∧ ∃ p : Regrown, w'' = grow (redrawn WE p.d) p.os) := fun d os => Calls.regrown_of (isState_calls s0 s1 tg _ _ _ hst1 hst2)
          have r2 := same_regrown (w := WE) (fun W => index_calls lb n2 hls W)
          have f0 := fun d os => cell_regrown x0 d os
          have f1 := fun d os => cell_regrown x1 d os
          have f2 := fun d os => cell_regrown x2 d os
          have f3 := fun d os => cell_regrown x3 d os
          have u0 := fun d os => cell_regrown z0' d os
          have u1 := fun d os => cell_regrown z1' d os
          have u2 := fun d os => cell_regrown z2' d os
          cases w0 : inB f 0 (s0 - 1) with
          | false =>
            have hv : Hid (ltsV (s0, s1, ls, es) = false) := by show _ = _; rw [hval3.out]; exact allK_bad hlt (okE_bad hx (by rw [w0]; rfl))
            simp only [w0] at r0
            replace r0 := hide r0
            clear r1 r2 w0 hx hprev ha
            refine wp_region_quiet_below (by kernel_rfl) (by kernel_rfl) ?_
            repeat (go_big_quiet_step (first | (with_reducible exact r0.out _ _)))
            refine wpQuiet_nil ?_
            intro _ hw'
            obtain ⟨⟨dq, osq⟩, hw''⟩ := hw'
            subst hw''
            have hbq := below_regrown WE dq osq
            generalize grow (redrawn WE dq) osq = wq at *
            go_wp2
            go_ret
            exact ⟨ret_b (by rw [hv.out]), hbw.out.trans (hbq.mono hbw.out.size)⟩
          | true =>
          simp only [w0] at r0
          replace r0 := hide r0
          cases w1 : inB tg 0 (s0 - 1) with
          | false =>
            have hv : Hid (ltsV (s0, s1, ls, es) = false) := by show _ = _; rw [hval3.out]; exact allK_bad hlt (okE_bad hx (by rw [w0, w1]; rfl))
            simp only [w1] at r1
            replace r1 := hide r1
            clear r2 w0 w1 hx hprev ha
            refine wp_region_quiet_below (by kernel_rfl) (by kernel_rfl) ?_
            repeat (go_big_quiet_step (first | (with_reducible exact r0.out _ _) | (with_reducible exact r1.out _ _)))
            refine wpQuiet_nil ?_
            intro _ hw'
            obtain ⟨⟨dq, osq⟩, hw''⟩ := hw'
            subst hw''
            have hbq := below_regrown WE dq osq
            generalize grow (redrawn WE dq) osq = wq at *
            go_wp2
            go_ret
            exact ⟨ret_b (by rw [hv.out]), hbw.out.trans (hbq.mono hbw.out.size)⟩
          | true =>
          simp only [w1] at r1
          replace r1 := hide r1
          cases w2 : inB lb 0 ((n2 : Int) - 1) with
          | false =>
            have hv : Hid (ltsV (s0, s1, ls, es) = false) := by show _ = _; rw [hval3.out]; exact allK_bad hlt (okE_bad hx (by rw [w0, w1, w2]; rfl))
            simp only [w2] at r2
            replace r2 := hide r2
            clear w0 w1 w2 hx hprev ha
            refine wp_region_quiet_below (by kernel_rfl) (by kernel_rfl) ?_
            repeat (go_big_quiet_step (first | (with_reducible exact r0.out _ _) | (with_reducible exact r1.out _ _) | (with_reducible exact r2.out _ _)))
            refine wpQuiet_nil ?_
            intro _ hw'
            obtain ⟨⟨dq, osq⟩, hw''⟩ := hw'
            subst hw''
            have hbq := below_regrown WE dq osq
            generalize grow (redrawn WE dq) osq = wq at *
            go_wp2
            go_ret
            exact ⟨ret_b (by rw [hv.out]), hbw.out.trans (hbq.mono hbw.out.size)⟩
          | true =>
          simp only [w2] at r2
          replace r2 := hide r2
          by_cases hk0 : 0 < k
          · obtain ⟨q1, q2, q3, hy, v0, v1, v2⟩ := hprev.out hk0
            have hok := okE_at (st := s0) (m := (n2 : Int)) hx hk0 hy
            rw [w0, w1, w2] at hok
            have hlI : (0 : Int) < (k : Int) := by omega
            have hlJ : decide ((0 : Int) < (k : Int)) = true := decide_eq_true hlI
            have hI4 : (1 : Int) ≤ (k : Int) := by omega
            have hI3 : (k : Int) - 1 < (n3 : Int) := by omega
            have hI5 : ((k : Int) - 1).toNat = k - 1 := by omega
            have g0 := fun d os => cell_regrown v0 d os
            have g1 := fun d os => cell_regrown v1 d os
            have g2 := fun d os => cell_regrown v2 d os
            have r3 : ∀ d os, Calls Tryz.prog 96 #[.agg #[.int .i64 q1, .int .i64 q2, .int .i64 q3], .agg #[.int .i64 f, .int .i64 lb, .int .i64 tg]] (grow (redrawn WE d) os) (fun e w'' => e = .returned (.int .i64 (cmpE (q1, q2, q3) (f, lb, tg))) ∧ ∃ p : Regrown, w'' = grow (redrawn WE p.d) p.os) := fun d os => Calls.regrown_of (compareEdges_calls q1 q2 q3 f lb tg _)
            have hce := cmpE_less (q1, q2, q3) (f, lb, tg)
            generalize cmpE (q1, q2, q3) (f, lb, tg) = ce at *
            replace r3 := hide r3
            cases hls' : edLess (q1, q2, q3) (f, lb, tg) with
            | true =>
              rw [hls'] at hce
              replace hce : decide (0 ≤ ce) = false := hce
              have hce2 : ¬ (0 : Int) ≤ ce := of_decide_eq_false hce
              have hnext : Hid (∀ j, j < k + 1 → okEd s0 (n2 : Int) es j = true) := lt_succ_cases ha.out (by rw [hok, hls']; rfl)
              clear w0 w1 w2 hx hprev ha hok hy hls'
              refine wp_region_quiet_below (by kernel_rfl) (by kernel_rfl) ?_
              repeat (go_big_quiet_step (first | (with_reducible exact r0.out _ _) | (with_reducible exact r1.out _ _) | (with_reducible exact r2.out _ _) | (with_reducible exact r3.out _ _)))
              refine wpQuiet_nil ?_
              intro _ hw'
              obtain ⟨⟨dq, osq⟩, hw''⟩ := hw'
              subst hw''
              have hbq := below_regrown WE dq osq
              generalize grow (redrawn WE dq) osq = wq at *
              go_wp2
              go_roundw
              case rel => exact ⟨k + 1, by omega, by go_num, hnext, hbB.out.trans (hbq.mono hbBs.out)⟩
              case measure => simp [intOf]; omega
            | false =>
              rw [hls'] at hce
              replace hce : decide (0 ≤ ce) = true := hce
              have hce2 : (0 : Int) ≤ ce := of_decide_eq_true hce
              have hv : Hid (ltsV (s0, s1, ls, es) = false) := by show _ = _; rw [hval3.out]; exact allK_bad hlt (by rw [hok, hls']; rfl)
              clear w0 w1 w2 hx hprev ha hok hy hls'
              refine wp_region_quiet_below (by kernel_rfl) (by kernel_rfl) ?_
              repeat (go_big_quiet_step (first | (with_reducible exact r0.out _ _) | (with_reducible exact r1.out _ _) | (with_reducible exact r2.out _ _) | (with_reducible exact r3.out _ _)))
              refine wpQuiet_nil ?_
              intro _ hw'
              obtain ⟨⟨dq, osq⟩, hw''⟩ := hw'
              subst hw''
              have hbq := below_regrown WE dq osq
              generalize grow (redrawn WE dq) osq = wq at *
              go_wp2
              go_ret
              exact ⟨ret_b (by rw [hv.out]), hbw.out.trans (hbq.mono hbw.out.size)⟩
          · have hk00 : k = 0 := by omega
            subst hk00
            have hok := okE_zero (st := s0) (m := (n2 : Int)) hx
            rw [w0, w1, w2] at hok
            have hnext : Hid (∀ j, j < 0 + 1 → okEd s0 (n2 : Int) es j = true) := lt_succ_cases ha.out (by rw [hok]; rfl)
            clear w0 w1 w2 hx hprev ha hok
            refine wp_region_quiet_below (by kernel_rfl) (by kernel_rfl) ?_
            repeat (go_big_quiet_step (first | (with_reducible exact r0.out _ _) | (with_reducible exact r1.out _ _) | (with_reducible exact r2.out _ _)))
            refine wpQuiet_nil ?_
            intro _ hw'
            obtain ⟨⟨dq, osq⟩, hw''⟩ := hw'
            subst hw''
            have hbq := below_regrown WE dq osq
            generalize grow (redrawn WE dq) osq = wq at *
            go_wp2
            go_roundw
            case rel => exact ⟨0 + 1, by omega, by go_num, hnext, hbB.out.trans (hbq.mono hbBs.out)⟩
            case measure => simp [intOf]; omega
        · have hkn : k = n3 := by omega
          subst hkn
          have hv : Hid (ltsV (s0, s1, ls, es) = true) := by show _ = _; rw [hval3.out]; exact allK_good ha.out
          go_wp2_with fail
          go_ret
          exact ⟨ret_b (by rw [hv.out]), hwb⟩

end Go.Proofs.YthlaoedpjloloaaGreatDoor

namespace Go.Proofs.YthlaoedpjloloaaGreatDoor
open Go.ChangeShapes Go.WideShapes Go.ChangeAt Go.RowKit Go.Sort
set_option linter.unusedVariables false

set_option maxRecDepth 100000 in
theorem indexFuncEd_calls (F : FuncId) (caps : Array Value) (G : Ed → Bool) (A : Option Addr) (n c : Nat) (l : List Ed) (w : World) (lo hi : Nat) (h : SlE w lo hi A n l) (hn : n ≤ 1048576)
    (hF : ∀ (v : Value) (W : World), Sem.run Tryz.prog (callFunc F (#[v] ++ caps)) W = .ok (.enter F (#[v] ++ caps)) W)
    (hcl : ∀ (x y z : Int) (W : World), (x, y, z) ∈ l → Below w.heap.size w W → Calls Tryz.prog F (#[.agg #[.int .i64 x, .int .i64 y, .int .i64 z]] ++ caps) W (Says (G (x, y, z)) W)) :
    Calls Tryz.prog 113 #[.slice A n c, .func (.func F) #[] caps] w fun e w' => ∃ i : Int, e = .returned (.int .i64 i) ∧ decide (0 ≤ i) = l.any G ∧ Below w.heap.size w w' := by
  have hlen := hide h.len
  replace hcl := hide hcl
  go_enter Tryz.func113, Tryz.ntmps113
  go_wp2
  go_loopw [8] (fun i wr => ∃ k : Nat, k ≤ n ∧ i = .int .i64 k ∧ Below w.heap.size w wr ∧ Hid ((l.take k).any G = false)) (fun i _ => n - (intOf i).toNat)
  case atStart => exact ⟨0, Nat.zero_le _, rfl, Below.refl _ _, rfl⟩
  case round =>
    obtain ⟨k, hk, rfl, hb, ha⟩ := hrel
    by_cases hlt : k < n
    · obtain ⟨b, off, x, y, z, rfl, g1, g2, g3, hx, c0, c1, c2, -, -, -⟩ := SlE.get h hlt
      replace c0 := (hb.cell (p := ⟨b, off + k * 3, none⟩) g3).trans c0
      replace c1 := (hb.cell (p := ⟨b, off + k * 3 + 1, none⟩) g3).trans c1
      replace c2 := (hb.cell (p := ⟨b, off + k * 3 + 2, none⟩) g3).trans c2
      have hc := hcl.out x y z wr (List.mem_of_getElem? hx) hb
      replace hx := hide hx
      clear h hcl
      by_cases hg : G (x, y, z) = true
      · rw [hg] at hc
        replace hc := hide hc
        have hy := hide (any_hit hx.out hg)
        clear hg
        go_wp2_with fail
        refine hc.out.mono ?_
        rintro e w1 ⟨rfl, hb1⟩
        go_wp2_with fail
        go_ret
        exact ⟨_, rfl, by rw [hy.out]; simp, hb.trans (hb1.mono hb.size)⟩
      · replace hg := Bool.eq_false_iff.2 hg
        rw [hg] at hc
        replace hc := hide hc
        have hy := hide (any_take_succ ha.out hx.out hg)
        clear hg
        go_wp2_with fail
        refine hc.out.mono ?_
        rintro e w1 ⟨rfl, hb1⟩
        go_wp2_with fail
        go_roundw
        case rel => exact ⟨k + 1, by omega, by go_num, hb.trans (hb1.mono hb.size), hy⟩
        case measure => simp [intOf]; omega
    · have hkn : k = n := by omega
      subst hkn
      clear hcl
      go_wp2
      go_ret
      have hy := ha.out
      rw [List.take_of_length_le (by rw [hlen.out]; exact Nat.le_refl _)] at hy
      exact ⟨_, rfl, by rw [hy]; decide, hb⟩

theorem containsFuncEd_calls (F : FuncId) (caps : Array Value) (G : Ed → Bool) (A : Option Addr) (n c : Nat) (l : List Ed) (w : World) (lo hi : Nat) (h : SlE w lo hi A n l) (hn : n ≤ 1048576)
    (hF : ∀ (v : Value) (W : World), Sem.run Tryz.prog (callFunc F (#[v] ++ caps)) W = .ok (.enter F (#[v] ++ caps)) W)
    (hcl : ∀ (x y z : Int) (W : World), (x, y, z) ∈ l → Below w.heap.size w W → Calls Tryz.prog F (#[.agg #[.int .i64 x, .int .i64 y, .int .i64 z]] ++ caps) W (Says (G (x, y, z)) W)) :
    Calls Tryz.prog 85 #[.slice A n c, .func (.func F) #[] caps] w (Says (l.any G) w) := by
  have q := hide (indexFuncEd_calls F caps G A n c l w lo hi h hn hF hcl)
  clear h hF hcl
  go_enter Tryz.func85, Tryz.ntmps85
  go_wp2_with fail
  refine q.out.mono ?_
  rintro e w1 ⟨i, rfl, hi, hb⟩
  replace hi := hide hi
  go_wp2_with fail
  go_ret
  exact ⟨ret_b hi.out.symm, hb⟩


def detV (d : DL) : Bool := ltsV d && detB d.2.2.2
set_option maxRecDepth 100000 in
set_option maxHeartbeats 1600000 in
theorem isDet_calls (x : CL) (d : DL) (w : World) (lo hi : Nat) (h : ReadL w lo hi x d) (htot : totL d ≤ 1048576) (he : Env w) :
    Calls Tryz.prog 81 #[.agg #[.int .i64 x.1, .int .i64 x.2.1, x.2.2.1, x.2.2.2]] w fun e w' => e = .returned (.bool (detV d)) ∧ Below w.heap.size w w' := by
  have hW0b : Below w.heap.size w (w.alloc (.cells #[.int .i64 x.1, .int .i64 x.2.1, x.2.2.1, x.2.2.2] 31)) := (Below.refl _ _).alloc (Nat.le_refl _) _
  have qv := validLts_calls x d _ lo hi (h.below hW0b (.inr (Nat.le_refl _))) htot (he.below hW0b (Nat.le_refl _))
  obtain ⟨s0, s1, v2, v3⟩ := x
  obtain ⟨st, ini, ls, es⟩ := d
  obtain ⟨e0, e1, ⟨A2, n2, k2, e2, hn2, hs2, t2⟩, ⟨A3, n3, k3, e3, hn3, t3⟩⟩ := h
  dsimp only at *
  subst e0 e1 e2 e3
  have l3 := t3.len
  have hes : n3 ≤ 1048576 := by rw [← l3]; exact Nat.le_trans (totL_edg (s0, s1, ls, es)) htot
  have hval : Hid (detV (s0, s1, ls, es) = (ltsV (s0, s1, ls, es) && allK (okDet es) n3)) := by show _ = _; rw [← l3]; rfl
  replace l3 := hide l3
  replace t3 := hide t3
  have hW0 := hide hW0b
  have kE := heap_alloc_new w (.cells #[.int .i64 s0, .int .i64 s1, .slice A2 n2 k2, .slice A3 n3 k3] 31)
  have hbt : w.heap.size < (w.alloc (.cells #[.int .i64 s0, .int .i64 s1, .slice A2 n2 k2, .slice A3 n3 k3] 31)).heap.size := by rw [World.size_alloc]; omega
  clear htot hs2 hn2 hn3 he t2 hW0b
  go_enter Tryz.func81, Tryz.ntmps81
  go_upto_region 1 with fail
  have c0 : (w.alloc (.cells #[.int .i64 s0, .int .i64 s1, .slice A2 n2 k2, .slice A3 n3 k3] 31)).cell? ⟨w.heap.size, 0, none⟩ = some (.int .i64 s0) := (cell_of_row _ _ 0 _ _ (0, 0) kE).trans rfl
  have c1 : (w.alloc (.cells #[.int .i64 s0, .int .i64 s1, .slice A2 n2 k2, .slice A3 n3 k3] 31)).cell? ⟨w.heap.size, 1, none⟩ = some (.int .i64 s1) := (cell_of_row _ _ 1 _ _ (0, 0) kE).trans rfl
  have c2 : (w.alloc (.cells #[.int .i64 s0, .int .i64 s1, .slice A2 n2 k2, .slice A3 n3 k3] 31)).cell? ⟨w.heap.size, 2, none⟩ = some (.slice A2 n2 k2) := (cell_of_row _ _ 2 _ _ (0, 0) kE).trans rfl
  have c3 : (w.alloc (.cells #[.int .i64 s0, .int .i64 s1, .slice A2 n2 k2, .slice A3 n3 k3] 31)).cell? ⟨w.heap.size, 3, none⟩ = some (.slice A3 n3 k3) := (cell_of_row _ _ 3 _ _ (0, 0) kE).trans rfl
  clear kE
  generalize hWW : (w.alloc (.cells #[.int .i64 s0, .int .i64 s1, .slice A2 n2 k2, .slice A3 n3 k3] 31)) = W0 at *
  clear hWW
  cases hl : ltsV (s0, s1, ls, es) with
  | false =>
    rw [hl] at qv
    have hv : Hid (detV (s0, s1, ls, es) = false) := by show _ = _; rw [hval.out, hl]; rfl
    replace qv := hide qv
    clear hl hval
    go_wp2_with fail
    refine qv.out.mono ?_
    rintro e w1 ⟨rfl, hb1⟩
    replace hb1 := hide hb1
    go_wp2_with fail
    go_ret
    exact ⟨ret_b (by rw [hv.out]), hW0.out.trans (hb1.out.mono (Nat.le_of_lt hbt))⟩
  | true =>
  rw [hl] at qv
  have hval2 : Hid (detV (s0, s1, ls, es) = allK (okDet es) n3) := by show _ = _; rw [hval.out, hl]; rfl
  replace qv := hide qv
  clear hl hval
  go_wp2_with fail
  refine qv.out.mono ?_
  rintro e w1 ⟨rfl, hb1⟩
  have a3 := (hb1.cell (p := ⟨w.heap.size, 3, none⟩) hbt).trans c3
  have hbt1 : w.heap.size + 1 ≤ W0.heap.size := hbt
  have hb1' := hide (hb1.mono hbt1)
  clear hb1
  go_wp2_with fail
  go_loopw [11] (fun i wr => ∃ k : Nat, k ≤ n3 ∧ i = .int .i64 (k : Nat) ∧ Hid (∀ j, j < k → okDet es j = true) ∧ Below (w.heap.size + 1) W0 wr) (fun i _ => n3 - (intOf i).toNat)
  case atStart => exact ⟨0, Nat.zero_le _, rfl, fun j hj => absurd hj (by omega), hb1'.out⟩
  case round =>
    clear a3
    obtain ⟨k, hk, rfl, ha, hb⟩ := hrel
    have hwb := hW0.out.trans (hb.mono (Nat.le_succ _))
    have y3 := (hb.cell (p := ⟨w.heap.size, 3, none⟩) (Nat.lt_succ_self _)).trans c3
    have hgt := Nat.lt_of_lt_of_le hbt hb.size
    by_cases hlt : k < n3
    · obtain ⟨b, off, f, lb, tg, rfl, g1, g2, g3, hx, p0, p1, p2, -, -, -⟩ := SlE.get t3.out hlt
      replace p0 := (hwb.cell g3).trans p0
      replace p1 := (hwb.cell (p := ⟨b, off + k * 3 + 1, none⟩) g3).trans p1
      replace p2 := (hwb.cell (p := ⟨b, off + k * 3 + 2, none⟩) g3).trans p2
      have hg := Nat.lt_of_lt_of_le g3 hwb.size
      have hbox : Below wr.heap.size wr (wr.alloc (.cells #[.int .i64 f, .int .i64 lb, .int .i64 tg] 99)) := (Below.refl _ _).alloc (Nat.le_refl _) _
      have kE := heap_alloc_new wr (.cells #[.int .i64 f, .int .i64 lb, .int .i64 tg] 99)
      have x3 := (hbox.cell (p := ⟨w.heap.size, 3, none⟩) hgt).trans y3
      have z0' : (wr.alloc (.cells #[.int .i64 f, .int .i64 lb, .int .i64 tg] 99)).cell? ⟨wr.heap.size, 0, none⟩ = some (.int .i64 f) := (cell_of_row _ _ 0 _ _ (0, 0) kE).trans rfl
      have z1' : (wr.alloc (.cells #[.int .i64 f, .int .i64 lb, .int .i64 tg] 99)).cell? ⟨wr.heap.size, 1, none⟩ = some (.int .i64 lb) := (cell_of_row _ _ 1 _ _ (0, 0) kE).trans rfl
      have hprev : 0 < k → ∃ r1 r2 r3, es[k - 1]? = some (r1, r2, r3) ∧ (wr.alloc (.cells #[.int .i64 f, .int .i64 lb, .int .i64 tg] 99)).cell? ⟨b, off + (k - 1) * 3, none⟩ = some (.int .i64 r1) ∧ (wr.alloc (.cells #[.int .i64 f, .int .i64 lb, .int .i64 tg] 99)).cell? ⟨b, off + (k - 1) * 3 + 1, none⟩ = some (.int .i64 r2) := fun hk0 => by
        obtain ⟨b', off', r1, r2, r3, eA, -, -, -, hy, u0, u1, u2, -, -, -⟩ := SlE.get t3.out (show k - 1 < n3 by omega)
        cases eA
        exact ⟨r1, r2, r3, hy, (hbox.cell hg).trans ((hwb.cell g3).trans u0), (hbox.cell (p := ⟨b, off + (k - 1) * 3 + 1, none⟩) hg).trans ((hwb.cell (p := ⟨b, off + (k - 1) * 3 + 1, none⟩) g3).trans u1)⟩
      replace hprev := hide hprev
      have hbw := hide (hwb.trans (hbox.mono hwb.size))
      have hbB := hide (hb.trans (hbox.mono hgt))
      have hbBs : Hid (w.heap.size + 1 ≤ (wr.alloc (.cells #[.int .i64 f, .int .i64 lb, .int .i64 tg] 99)).heap.size) := by show _ ≤ _; rw [World.size_alloc]; omega
      have hI0 : (0 : Int) ≤ (k : Int) := by omega
      have hI1 : (k : Int) < (n3 : Int) := by omega
      clear t3 hg g1 g2 g3 hwb hb hbox kE hgt
      go_wp2_with fail
      clear p0 p1 p2 y3
      generalize hWE : (wr.alloc (.cells #[.int .i64 f, .int .i64 lb, .int .i64 tg] 99)) = WE at *
      generalize hbE : wr.heap.size = bE at *
      clear hWE hbE
      have f3 := fun d os => cell_regrown x3 d os
      have u0 := fun d os => cell_regrown z0' d os
      have u1 := fun d os => cell_regrown z1' d os
      by_cases hlb : lb = 0
      · have hv : Hid (detV (s0, s1, ls, es) = false) := by show _ = _; rw [hval2.out]; exact allK_bad hlt (okD_bad hx hlb)
        subst hlb
        clear hx ha hprev
        refine wp_region_quiet_below (by kernel_rfl) (by kernel_rfl) ?_
        repeat (go_big_quiet_step (fail))
        refine wpQuiet_nil ?_
        intro _ hw'
        obtain ⟨⟨dq, osq⟩, hw''⟩ := hw'
        subst hw''
        have hbq := below_regrown WE dq osq
        generalize grow (redrawn WE dq) osq = wq at *
        go_wp2
        go_ret
        exact ⟨ret_b (by rw [hv.out]), hbw.out.trans (hbq.mono hbw.out.size)⟩
      have hl0 : (lb == 0) = false := by rw [beq_eq_false_iff_ne]; exact hlb
      by_cases hk0 : 0 < k
      · obtain ⟨r1, r2, r3, hy, m0, m1⟩ := hprev.out hk0
        have v0 := fun d os => cell_regrown m0 d os
        have v1 := fun d os => cell_regrown m1 d os
        have hok := okD_at hx hk0 hy
        rw [decide_eq_false hlb] at hok
        have hlI : (0 : Int) < (k : Int) := by omega
        have hlJ : decide ((0 : Int) < (k : Int)) = true := decide_eq_true hlI
        have hI4 : (1 : Int) ≤ (k : Int) := by omega
        have hI3 : (k : Int) - 1 < (n3 : Int) := by omega
        have hI5 : ((k : Int) - 1).toNat = k - 1 := by omega
        clear hx hy hlb hprev
        by_cases hf : r1 = f
        · by_cases hr : r2 = lb
          · have hv : Hid (detV (s0, s1, ls, es) = false) := by show _ = _; rw [hval2.out]; exact allK_bad hlt (by rw [hok, decide_eq_true hf, decide_eq_true hr]; rfl)
            subst hf hr
            clear hok ha
            refine wp_region_quiet_below (by kernel_rfl) (by kernel_rfl) ?_
            repeat (go_big_quiet_step (fail))
            refine wpQuiet_nil ?_
            intro _ hw'
            obtain ⟨⟨dq, osq⟩, hw''⟩ := hw'
            subst hw''
            have hbq := below_regrown WE dq osq
            generalize grow (redrawn WE dq) osq = wq at *
            go_wp2
            go_ret
            exact ⟨ret_b (by rw [hv.out]), hbw.out.trans (hbq.mono hbw.out.size)⟩
          · have hnext : Hid (∀ j, j < k + 1 → okDet es j = true) := lt_succ_cases ha.out (by rw [hok, decide_eq_false hr]; simp)
            have hrb : (r2 == lb) = false := by rw [beq_eq_false_iff_ne]; exact hr
            subst hf
            clear hok ha hr
            refine wp_region_quiet_below (by kernel_rfl) (by kernel_rfl) ?_
            repeat (go_big_quiet_step (fail))
            refine wpQuiet_nil ?_
            intro _ hw'
            obtain ⟨⟨dq, osq⟩, hw''⟩ := hw'
            subst hw''
            have hbq := below_regrown WE dq osq
            generalize grow (redrawn WE dq) osq = wq at *
            go_wp2
            go_roundw
            case rel => exact ⟨k + 1, by omega, by go_num, hnext, hbB.out.trans (hbq.mono hbBs.out)⟩
            case measure => simp [intOf]; omega
        · have hnext : Hid (∀ j, j < k + 1 → okDet es j = true) := lt_succ_cases ha.out (by rw [hok, decide_eq_false hf]; rfl)
          have hfb : (r1 == f) = false := by rw [beq_eq_false_iff_ne]; exact hf
          clear hok ha hf
          refine wp_region_quiet_below (by kernel_rfl) (by kernel_rfl) ?_
          repeat (go_big_quiet_step (fail))
          refine wpQuiet_nil ?_
          intro _ hw'
          obtain ⟨⟨dq, osq⟩, hw''⟩ := hw'
          subst hw''
          have hbq := below_regrown WE dq osq
          generalize grow (redrawn WE dq) osq = wq at *
          go_wp2
          go_roundw
          case rel => exact ⟨k + 1, by omega, by go_num, hnext, hbB.out.trans (hbq.mono hbBs.out)⟩
          case measure => simp [intOf]; omega
      · have hk00 : k = 0 := by omega
        subst hk00
        have hnext : Hid (∀ j, j < 0 + 1 → okDet es j = true) := lt_succ_cases ha.out (by rw [okD_zero hx, decide_eq_false hlb]; rfl)
        clear hx ha hlb hprev
        refine wp_region_quiet_below (by kernel_rfl) (by kernel_rfl) ?_
        repeat (go_big_quiet_step (fail))
        refine wpQuiet_nil ?_
        intro _ hw'
        obtain ⟨⟨dq, osq⟩, hw''⟩ := hw'
        subst hw''
        have hbq := below_regrown WE dq osq
        generalize grow (redrawn WE dq) osq = wq at *
        go_wp2
        go_roundw
        case rel => exact ⟨0 + 1, by omega, by go_num, hnext, hbB.out.trans (hbq.mono hbBs.out)⟩
        case measure => simp [intOf]; omega
    · have hkn : k = n3 := by omega
      subst hkn
      have hv : Hid (detV (s0, s1, ls, es) = true) := by show _ = _; rw [hval2.out]; exact allK_good ha.out
      go_wp2_with fail
      go_ret
      exact ⟨ret_b (by rw [hv.out]), hwb⟩

end Go.Proofs.YthlaoedpjloloaaGreatDoor

namespace Go.Proofs.YthlaoedpjloloaaGreatDoor
open Go.ChangeShapes Go.WideShapes Go.ChangeAt Go.RowKit Go.Sort
set_option linter.unusedVariables false

def okVd (es : List Ed) (vs : List Int) (k : Nat) : Bool := match vs[k]? with
  | some v => inB v 0 2 && (decide (v = 0) || (outE es (k : Int)).isEmpty)
  | none => true
def monV (d : DL × List Int) : Bool := (ltsV d.1 && detB d.1.2.2.2) && (decide ((d.2.length : Int) = d.1.1) && allK (okVd d.1.2.2.2 d.2) d.2.length)
theorem okVd_at {es : List Ed} {vs : List Int} {k : Nat} {v : Int} (hx : vs[k]? = some v) : okVd es vs k = (inB v 0 2 && (decide (v = 0) || (outE es (k : Int)).isEmpty)) := by
  unfold okVd
  rw [hx]

set_option maxRecDepth 100000 in
set_option maxHeartbeats 1600000 in
theorem l30Is_calls (bm : Nat) (x : CL) (A4 : Option Addr) (n4 k4 : Nat) (d : DL) (vs : List Int) (w : World) (h : LtsAt w bm x d) (hc4 : w.cell? ⟨bm, 4, none⟩ = some (.slice A4 n4 k4)) (hn4 : n4 ≤ 1048576) (t4 : SlI w 0 w.heap.size A4 n4 vs) :
    Calls Tryz.prog 50 #[.pointer (some ⟨bm, 0, none⟩)] w fun e w' => e = .returned (.bool (monV (d, vs))) ∧ Below w.heap.size w w' := by
  have qa : ∀ d' os, Calls Tryz.prog 57 #[.pointer (some ⟨bm, 0, none⟩)] (grow (redrawn w d') os) (fun e w'' => e = .returned (.bool (ltsV d)) ∧ ∃ p : Regrown, w'' = grow (redrawn w p.d) p.os) := fun d' os => Calls.regrown_of (l11Is_calls bm x d _ (h.below (below_regrown w d' os) (Nat.le_refl _)))
  have qb : ∀ d' os, Calls Tryz.prog 76 #[.pointer (some ⟨bm, 0, none⟩)] (grow (redrawn w d') os) (fun e w'' => e = .returned (.bool (detB d.2.2.2)) ∧ ∃ p : Regrown, w'' = grow (redrawn w p.d) p.os) := fun d' os => Calls.regrown_of (l11Single_calls bm x d _ (h.below (below_regrown w d' os) (Nat.le_refl _)))
  have l4 := t4.len
  have hval : monV (d, vs) = ((ltsV d && detB d.2.2.2) && (decide ((n4 : Int) = d.1) && allK (okVd d.2.2.2 vs) n4)) := by rw [← l4]; rfl
  obtain ⟨s0, s1, v2, v3⟩ := x
  obtain ⟨st, ini, ls, es⟩ := d
  have hL := hide h
  obtain ⟨⟨e0, -, -, -⟩, -, hbm, c0, -, -, -⟩ := h
  dsimp only at *
  subst e0
  replace l4 := hide l4
  replace t4 := hide t4
  have f0 := fun d os => cell_regrown c0 d os
  have f4 := fun d os => cell_regrown hc4 d os
  cases h1 : ltsV (s0, ini, ls, es) with
  | false =>
    rw [h1] at hval
    simp only [h1] at qa
    have hv : Hid (monV ((s0, ini, ls, es), vs) = false) := hval
    replace qa := hide qa
    clear qb hval h1 hL
    go_enter Tryz.func50, Tryz.ntmps50
    go_wp2
    refine wp_region_quiet_below (by kernel_rfl) (by kernel_rfl) ?_
    repeat (go_big_quiet_step (first | (with_reducible exact qa.out _ _)))
    refine wpQuiet_nil ?_
    intro _ hw'
    obtain ⟨⟨dq, osq⟩, hw''⟩ := hw'
    subst hw''
    have hbq := below_regrown w dq osq
    generalize grow (redrawn w dq) osq = wq at *
    go_wp2
    go_ret
    exact ⟨ret_b (by rw [hv.out]), hbq⟩
  | true =>
  rw [h1] at hval
  simp only [h1] at qa
  replace qa := hide qa
  cases h2 : detB es with
  | false =>
    rw [h2] at hval
    simp only [h2] at qb
    have hv : Hid (monV ((s0, ini, ls, es), vs) = false) := hval
    replace qb := hide qb
    clear hval h1 h2 hL
    go_enter Tryz.func50, Tryz.ntmps50
    go_wp2
    refine wp_region_quiet_below (by kernel_rfl) (by kernel_rfl) ?_
    repeat (go_big_quiet_step (first | (with_reducible exact qa.out _ _) | (with_reducible exact qb.out _ _)))
    refine wpQuiet_nil ?_
    intro _ hw'
    obtain ⟨⟨dq, osq⟩, hw''⟩ := hw'
    subst hw''
    have hbq := below_regrown w dq osq
    generalize grow (redrawn w dq) osq = wq at *
    go_wp2
    go_ret
    exact ⟨ret_b (by rw [hv.out]), hbq⟩
  | true =>
  rw [h2] at hval
  simp only [h2] at qb
  replace qb := hide qb
  by_cases h3 : (n4 : Int) = s0
  case neg =>
    rw [decide_eq_false h3] at hval
    have hv : Hid (monV ((s0, ini, ls, es), vs) = false) := hval
    have h3b : ((n4 : Int) != s0) = true := by rw [bne_iff_ne]; exact h3
    clear hval h1 h2 hL h3
    go_enter Tryz.func50, Tryz.ntmps50
    go_wp2
    refine wp_region_quiet_below (by kernel_rfl) (by kernel_rfl) ?_
    repeat (go_big_quiet_step (first | (with_reducible exact qa.out _ _) | (with_reducible exact qb.out _ _)))
    refine wpQuiet_nil ?_
    intro _ hw'
    obtain ⟨⟨dq, osq⟩, hw''⟩ := hw'
    subst hw''
    have hbq := below_regrown w dq osq
    generalize grow (redrawn w dq) osq = wq at *
    go_wp2
    go_ret
    exact ⟨ret_b (by rw [hv.out]), hbq⟩
  rw [decide_eq_true h3] at hval
  have hval2 : Hid (monV ((s0, ini, ls, es), vs) = allK (okVd es vs) n4) := by show _ = _; rw [hval]; rfl
  subst h3
  clear hval h1 h2
  go_enter Tryz.func50, Tryz.ntmps50
  go_wp2
  refine wp_region_quiet_below (by kernel_rfl) (by kernel_rfl) ?_
  repeat (go_big_quiet_step (first | (with_reducible exact qa.out _ _) | (with_reducible exact qb.out _ _)))
  refine wpQuiet_nil ?_
  intro _ hw'
  obtain ⟨⟨dq, osq⟩, hw''⟩ := hw'
  subst hw''
  have hbq := below_regrown w dq osq
  generalize grow (redrawn w dq) osq = wq at *
  clear f0 f4 qa qb
  have m4 := (hbq.cell (p := ⟨bm, 4, none⟩) hbm).trans hc4
  replace hbq := hide hbq
  go_wp2
  go_loopw [3] (fun i wr => ∃ k : Nat, k ≤ n4 ∧ i = .int .i64 (k : Nat) ∧ Hid (∀ j, j < k → okVd es vs j = true) ∧ Below w.heap.size w wr) (fun i _ => n4 - (intOf i).toNat)
  case atStart => exact ⟨0, Nat.zero_le _, rfl, fun j hj => absurd hj (by omega), hbq.out⟩
  case round =>
    clear m4
    obtain ⟨k, hk, rfl, ha, hb⟩ := hrel
    have y4 := (hb.cell (p := ⟨bm, 4, none⟩) hbm).trans hc4
    by_cases hlt : k < n4
    · obtain ⟨b, off, v, rfl, g1, g2, g3, hx, p0, -⟩ := SlI.get t4.out hlt
      replace p0 := (hb.cell (p := ⟨b, off + k, none⟩) g3).trans p0
      have hok := okVd_at (es := es) hx
      have qo := l11Out_calls bm _ _ (k : Int) wr (hL.out.below hb (Nat.le_refl _))
      dsimp only at qo
      replace qo := hide qo
      replace hb := hide hb
      clear hx g1 g2 g3
      cases z0 : inB v 0 2 with
      | false =>
        rw [z0] at hok
        have hv : Hid (monV (((n4 : Int), ini, ls, es), vs) = false) := by show _ = _; rw [hval2.out]; exact allK_bad hlt hok
        clear hok ha qo hL t4
        go_wp2_with (first | (go_at_call 77; (with_reducible refine (l00In_calls _ _ _ _).mono ?_); rintro e w' ⟨rfl, rfl⟩))
        go_ret
        exact ⟨ret_b (by rw [hv.out]), hb.out⟩
      | true =>
      rw [z0, Bool.true_and] at hok
      by_cases hv0 : v = 0
      · have hnext : Hid (∀ j, j < k + 1 → okVd es vs j = true) := lt_succ_cases ha.out (by rw [hok, decide_eq_true hv0]; rfl)
        subst hv0
        clear hok ha qo
        go_wp2_with (first | (go_at_call 77; (with_reducible refine (l00In_calls _ _ _ _).mono ?_); rintro e w' ⟨rfl, rfl⟩))
        go_roundw
        case rel => exact ⟨k + 1, by omega, by go_num, hnext, hb.out⟩
        case measure => simp [intOf]; omega
      rw [decide_eq_false hv0, Bool.false_or] at hok
      have hvb : (v != 0) = true := by rw [bne_iff_ne]; exact hv0
      have hvb2 : (v == 0) = false := by rw [beq_eq_false_iff_ne]; exact hv0
      clear hv0
      cases ho : (outE es (k : Int)).isEmpty with
      | true =>
        have hnext : Hid (∀ j, j < k + 1 → okVd es vs j = true) := lt_succ_cases ha.out (by rw [hok, ho])
        have ho2 : outE es (k : Int) = [] := List.isEmpty_iff.1 ho
        have qo2 : Hid (Calls Tryz.prog 78 #[.pointer (some ⟨bm, 0, none⟩), .int .i64 (k : Int)] wr fun e w' => ∃ A c, e = .returned (.slice A 0 c) ∧ Below wr.heap.size wr w') := qo.out.mono fun e w' ⟨A, n, c, h1, h2, _, h4⟩ => by
          rw [ho2] at h2
          have := h2.len
          simp at this
          subst this
          exact ⟨A, c, h1, h4⟩
        clear hok ha ho ho2 qo
        go_wp2_with (first | (go_at_call 77; (with_reducible refine (l00In_calls _ _ _ _).mono ?_); rintro e w' ⟨rfl, rfl⟩) | (go_at_call 78; (with_reducible refine qo2.out.mono ?_); rintro e w2 ⟨A5, c5, rfl, hb2⟩; replace hb2 := hide hb2))
        go_roundw
        case rel => exact ⟨k + 1, by omega, by go_num, hnext, hb.out.trans (hb2.out.mono hb.out.size)⟩
        case measure => simp [intOf]; omega
      | false =>
        have hv : Hid (monV (((n4 : Int), ini, ls, es), vs) = false) := by show _ = _; rw [hval2.out]; exact allK_bad hlt (by rw [hok, ho])
        have qo2 : Hid (Calls Tryz.prog 78 #[.pointer (some ⟨bm, 0, none⟩), .int .i64 (k : Int)] wr fun e w' => ∃ A n c, e = .returned (.slice A n c) ∧ (0 : Int) < (n : Int) ∧ Below wr.heap.size wr w') := qo.out.mono fun e w' ⟨A, n, c, h1, h2, _, h4⟩ => by
          have hl := h2.len
          have : outE es (k : Int) ≠ [] := fun e => by rw [e] at ho; cases ho
          have : (outE es (k : Int)).length ≠ 0 := fun e => this (List.eq_nil_of_length_eq_zero e)
          exact ⟨A, n, c, h1, by omega, h4⟩
        clear hok ha ho qo hL t4
        go_wp2_with (first | (go_at_call 77; (with_reducible refine (l00In_calls _ _ _ _).mono ?_); rintro e w' ⟨rfl, rfl⟩) | (go_at_call 78; (with_reducible refine qo2.out.mono ?_); rintro e w2 ⟨A5, n5, c5, rfl, hn5, hb2⟩; replace hb2 := hide hb2))
        go_ret
        exact ⟨ret_b (by rw [hv.out]), hb.out.trans (hb2.out.mono hb.out.size)⟩
    · have hkn : k = n4 := by omega
      subst hkn
      have hv : Hid (monV (((k : Int), ini, ls, es), vs) = true) := by show _ = _; rw [hval2.out]; exact allK_good ha.out
      go_wp2_with fail
      go_ret
      exact ⟨ret_b (by rw [hv.out]), hb⟩

end Go.Proofs.YthlaoedpjloloaaGreatDoor

namespace Go.Proofs.YthlaoedpjloloaaGreatDoor
open Go.ChangeShapes Go.WideShapes Go.ChangeAt Go.RowKit Go.Sort
set_option linter.unusedVariables false

def vAt (vs : List Int) (e : Ed) : Bool := vs.getD e.1.toNat 0 != 0
theorem mon_eq {st ini : Int} {ls : List ByteArray} {es : List Ed} {vs : List Int} (hl : ltsV (st, ini, ls, es) = true) (hn : (vs.length : Int) = st) :
    allK (okVd es vs) vs.length = (!(vs.any fun v => !(inB v 0 2)) && !(es.any (vAt vs))) := by
  rw [ltsV_eq, Bool.and_eq_true] at hl
  have hE : ∀ e ∈ es, 0 ≤ e.1 ∧ e.1 < st := fun e he => by
    obtain ⟨j, hj⟩ := List.getElem?_of_mem he
    have h1 := allK_get hl.2 (List.getElem?_eq_some_iff.1 hj).1
    unfold okEd at h1
    rw [hj] at h1
    simp only [Bool.and_eq_true] at h1
    have h2 := inB_true.1 h1.1.1.1
    omega
  rw [Bool.eq_iff_iff]
  constructor
  · intro h
    rw [Bool.and_eq_true]
    constructor
    · rw [Bool.not_eq_true', ← Bool.not_eq_true, List.any_eq_true]
      rintro ⟨v, hv, hb⟩
      obtain ⟨j, hj⟩ := List.getElem?_of_mem hv
      have h1 := allK_get h (List.getElem?_eq_some_iff.1 hj).1
      rw [okVd_at hj, Bool.and_eq_true] at h1
      rw [h1.1] at hb
      cases hb
    · rw [Bool.not_eq_true', ← Bool.not_eq_true, List.any_eq_true]
      rintro ⟨e, he, hb⟩
      obtain ⟨h0, h1⟩ := hE e he
      have hj : e.1.toNat < vs.length := by omega
      have hx : vs[e.1.toNat]? = some (vs[e.1.toNat]) := List.getElem?_eq_getElem hj
      have h2 := allK_get h hj
      rw [okVd_at hx, Bool.and_eq_true, Bool.or_eq_true] at h2
      unfold vAt at hb
      rw [List.getD_eq_getElem?_getD, hx] at hb
      rcases h2.2 with h3 | h3
      · rw [decide_eq_true_eq] at h3
        rw [h3] at hb
        cases hb
      · have h4 := List.isEmpty_iff.1 h3
        have h5 : e ∈ outE es ((e.1.toNat : Nat) : Int) := by
          unfold outE
          rw [List.mem_filter]
          exact ⟨he, by rw [decide_eq_true_eq]; omega⟩
        rw [h4] at h5
        cases h5
  · intro h
    rw [Bool.and_eq_true, Bool.not_eq_true', Bool.not_eq_true'] at h
    refine allK_good fun j hj => ?_
    have hx : vs[j]? = some (vs[j]) := List.getElem?_eq_getElem hj
    rw [okVd_at hx, Bool.and_eq_true, Bool.or_eq_true]
    constructor
    · have h1 := h.1
      rw [← Bool.not_eq_true, List.any_eq_true] at h1
      cases hb : inB vs[j] 0 2 with
      | true => rfl
      | false => exact absurd ⟨vs[j], List.getElem_mem hj, by rw [hb]; rfl⟩ h1
    · by_cases hv : vs[j] = 0
      · exact .inl (decide_eq_true hv)
      · right
        rw [List.isEmpty_iff]
        unfold outE
        rw [List.filter_eq_nil_iff]
        intro e he hc
        rw [decide_eq_true_eq] at hc
        have h2 := h.2
        rw [← Bool.not_eq_true, List.any_eq_true] at h2
        refine h2 ⟨e, he, ?_⟩
        unfold vAt
        rw [List.getD_eq_getElem?_getD, hc, Int.toNat_natCast, hx]
        simpa using hv

set_option maxRecDepth 100000 in
theorem mon1_calls (v : Int) (w : World) : Calls Tryz.prog 83 #[.int .i64 v] w (Says (!(inB v 0 2)) w) := by
  have q := hide (within_calls v 0 2 w)
  go_enter Tryz.func83, Tryz.ntmps83
  go_wp2_with fail
  refine q.out.mono ?_
  rintro e w1 ⟨rfl, rfl⟩
  go_wp2_with fail
  go_ret
  exact ⟨rfl, Below.refl _ _⟩

set_option maxRecDepth 100000 in
theorem mon2_calls (f lb tg : Int) (bm : Nat) (A4 : Option Addr) (n4 k4 : Nat) (vs : List Int) (W : World) (lo hi : Nat) (hc4 : W.cell? ⟨bm, 4, none⟩ = some (.slice A4 n4 k4)) (hbm : bm < W.heap.size) (t4 : SlI W lo hi A4 n4 vs) (hn4 : n4 ≤ 1048576) (hf0 : 0 ≤ f) (hf1 : f < (n4 : Int)) :
    Calls Tryz.prog 86 (#[.agg #[.int .i64 f, .int .i64 lb, .int .i64 tg]] ++ #[.pointer (some ⟨bm, 0, none⟩)]) W (Says (vAt vs (f, lb, tg)) W) := by
  have hb0 : Below W.heap.size W (W.alloc (.cells #[.int .i64 f, .int .i64 lb, .int .i64 tg] 99)) := (Below.refl _ _).alloc (Nat.le_refl _) _
  obtain ⟨k, rfl⟩ : ∃ k : Nat, f = (k : Int) := ⟨f.toNat, by omega⟩
  obtain ⟨b, off, v, rfl, g1, g2, g3, hx, p0, -⟩ := SlI.get t4 (show k < n4 by omega)
  have c4 := (hb0.cell (p := ⟨bm, 4, none⟩) hbm).trans hc4
  have p1 := (hb0.cell (p := ⟨b, off + k, none⟩) g3).trans p0
  have hv : Hid (vAt vs ((k : Int), lb, tg) = (v != 0)) := by
    show _ = _
    unfold vAt
    rw [List.getD_eq_getElem?_getD]
    simp only [Int.toNat_natCast]
    rw [hx]
    rfl
  replace hb0 := hide hb0
  clear t4 hx p0 hc4
  show Calls _ _ #[.agg #[.int .i64 (k : Int), .int .i64 lb, .int .i64 tg], .pointer (some ⟨bm, 0, none⟩)] W _
  by_cases h0 : v = 0
  · subst h0
    go_enter Tryz.func86, Tryz.ntmps86
    go_wp2_with fail
    go_ret
    exact ⟨ret_b (by rw [hv.out]; rfl), hb0.out⟩
  · have hvb : (v != 0) = true := by rw [bne_iff_ne]; exact h0
    have hvb2 : (v == 0) = false := by rw [beq_eq_false_iff_ne]; exact h0
    go_enter Tryz.func86, Tryz.ntmps86
    go_wp2_with fail
    go_ret
    exact ⟨ret_b (by rw [hv.out, hvb]), hb0.out⟩

set_option maxRecDepth 100000 in
set_option maxHeartbeats 1600000 in
theorem mon_calls (x : CL) (A4 : Option Addr) (n4 k4 : Nat) (d : DL) (vs : List Int) (w : World) (lo hi : Nat) (h : ReadL w lo hi x d) (t4 : SlI w lo hi A4 n4 vs) (hn4 : n4 ≤ 1048576) (htot : totL d ≤ 1048576) (he : Env w) :
    Calls Tryz.prog 53 #[.agg #[.int .i64 x.1, .int .i64 x.2.1, x.2.2.1, x.2.2.2, .slice A4 n4 k4]] w fun e w' => e = .returned (.bool (monV (d, vs))) ∧ Below w.heap.size w w' := by
  have hW0b : Below w.heap.size w (w.alloc (.cells #[.int .i64 x.1, .int .i64 x.2.1, x.2.2.1, x.2.2.2, .slice A4 n4 k4] 44)) := (Below.refl _ _).alloc (Nat.le_refl _) _
  have qv := isDet_calls x d _ lo hi (h.below hW0b (.inr (Nat.le_refl _))) htot (he.below hW0b (Nat.le_refl _))
  have tW := t4.below hW0b (.inr (Nat.le_refl _))
  have l4 := t4.len
  have hval : monV (d, vs) = (detV d && (decide ((n4 : Int) = d.1) && allK (okVd d.2.2.2 vs) n4)) := by rw [← l4]; rfl
  obtain ⟨s0, s1, v2, v3⟩ := x
  obtain ⟨st, ini, ls, es⟩ := d
  obtain ⟨e0, e1, ⟨A2, n2, k2, e2, hn2, hs2, t2⟩, ⟨A3, n3, k3, e3, hn3, t3⟩⟩ := h
  dsimp only at *
  subst e0 e1 e2 e3
  have hes : n3 ≤ 1048576 := by rw [← t3.len]; exact Nat.le_trans (totL_edg (s0, s1, ls, es)) htot
  have tE := t3.below hW0b (.inr (Nat.le_refl _))
  have hW0 := hide hW0b
  have kE := heap_alloc_new w (.cells #[.int .i64 s0, .int .i64 s1, .slice A2 n2 k2, .slice A3 n3 k3, .slice A4 n4 k4] 44)
  have hbt : w.heap.size < (w.alloc (.cells #[.int .i64 s0, .int .i64 s1, .slice A2 n2 k2, .slice A3 n3 k3, .slice A4 n4 k4] 44)).heap.size := by rw [World.size_alloc]; omega
  replace l4 := hide l4
  replace tW := hide tW
  replace tE := hide tE
  clear htot hs2 hn2 hn3 he t2 t3 t4 hW0b
  go_enter Tryz.func53, Tryz.ntmps53
  go_upto_region 1 with fail
  have c0 : (w.alloc (.cells #[.int .i64 s0, .int .i64 s1, .slice A2 n2 k2, .slice A3 n3 k3, .slice A4 n4 k4] 44)).cell? ⟨w.heap.size, 0, none⟩ = some (.int .i64 s0) := (cell_of_row _ _ 0 _ _ (0, 0) kE).trans rfl
  have c1 : (w.alloc (.cells #[.int .i64 s0, .int .i64 s1, .slice A2 n2 k2, .slice A3 n3 k3, .slice A4 n4 k4] 44)).cell? ⟨w.heap.size, 1, none⟩ = some (.int .i64 s1) := (cell_of_row _ _ 1 _ _ (0, 0) kE).trans rfl
  have c2 : (w.alloc (.cells #[.int .i64 s0, .int .i64 s1, .slice A2 n2 k2, .slice A3 n3 k3, .slice A4 n4 k4] 44)).cell? ⟨w.heap.size, 2, none⟩ = some (.slice A2 n2 k2) := (cell_of_row _ _ 2 _ _ (0, 0) kE).trans rfl
  have c3 : (w.alloc (.cells #[.int .i64 s0, .int .i64 s1, .slice A2 n2 k2, .slice A3 n3 k3, .slice A4 n4 k4] 44)).cell? ⟨w.heap.size, 3, none⟩ = some (.slice A3 n3 k3) := (cell_of_row _ _ 3 _ _ (0, 0) kE).trans rfl
  have c4 : (w.alloc (.cells #[.int .i64 s0, .int .i64 s1, .slice A2 n2 k2, .slice A3 n3 k3, .slice A4 n4 k4] 44)).cell? ⟨w.heap.size, 4, none⟩ = some (.slice A4 n4 k4) := (cell_of_row _ _ 4 _ _ (0, 0) kE).trans rfl
  clear kE
  generalize hWW : (w.alloc (.cells #[.int .i64 s0, .int .i64 s1, .slice A2 n2 k2, .slice A3 n3 k3, .slice A4 n4 k4] 44)) = W0 at *
  clear hWW
  cases hl : detV (s0, s1, ls, es) with
  | false =>
    rw [hl] at qv hval
    have hv : Hid (monV ((s0, s1, ls, es), vs) = false) := hval
    replace qv := hide qv
    clear hl hval tW tE
    go_wp2_with fail
    refine qv.out.mono ?_
    rintro e w1 ⟨rfl, hb1⟩
    replace hb1 := hide hb1
    go_wp2_with fail
    go_ret
    exact ⟨ret_b (by rw [hv.out]), hW0.out.trans (hb1.out.mono (Nat.le_of_lt hbt))⟩
  | true =>
  rw [hl] at qv hval
  replace qv := hide qv
  have hlv : ltsV (s0, s1, ls, es) = true := by
    unfold detV at hl
    rw [Bool.and_eq_true] at hl
    exact hl.1
  clear hl
  by_cases hst : (n4 : Int) = s0
  case neg =>
    rw [decide_eq_false hst] at hval
    have hv : Hid (monV ((s0, s1, ls, es), vs) = false) := hval
    have hsb : ((n4 : Int) != s0) = true := by rw [bne_iff_ne]; exact hst
    have hsb2 : ((n4 : Int) == s0) = false := by rw [beq_eq_false_iff_ne]; exact hst
    clear hlv hval tW tE hst
    go_wp2_with fail
    refine qv.out.mono ?_
    rintro e w1 ⟨rfl, hb1⟩
    have a0 := (hb1.cell (p := ⟨w.heap.size, 0, none⟩) hbt).trans c0
    have a4 := (hb1.cell (p := ⟨w.heap.size, 4, none⟩) hbt).trans c4
    replace hb1 := hide hb1
    go_wp2_with fail
    go_ret
    exact ⟨ret_b (by rw [hv.out]), hW0.out.trans (hb1.out.mono (Nat.le_of_lt hbt))⟩
  rw [decide_eq_true hst] at hval
  have hmq := mon_eq (vs := vs) hlv (by rw [l4.out]; exact hst)
  rw [l4.out] at hmq
  rw [hmq, Bool.true_and, Bool.true_and] at hval
  have hE : ∀ f lb tg : Int, (f, lb, tg) ∈ es → 0 ≤ f ∧ f < (n4 : Int) := fun f lb tg hm => by
    rw [ltsV_eq, Bool.and_eq_true] at hlv
    obtain ⟨j, hj⟩ := List.getElem?_of_mem hm
    have h1 := allK_get hlv.2 (List.getElem?_eq_some_iff.1 hj).1
    unfold okEd at h1
    rw [hj] at h1
    simp only [Bool.and_eq_true] at h1
    have h2 := inB_true.1 h1.1.1.1
    omega
  subst hst
  clear hlv hmq
  have q1 := fun (W : World) (hW : Below W0.heap.size W0 W) => containsFuncI_calls 83 #[] (fun v => !(inB v 0 2)) A4 n4 k4 vs W lo hi (tW.out.below hW (.inr (Nat.le_refl _))) hn4 (fun v W => by kernel_rfl) (fun v W _ => mon1_calls v W)
  have q2 := fun (W : World) (hW : Below W0.heap.size W0 W) => containsFuncEd_calls 86 #[.pointer (some ⟨w.heap.size, 0, none⟩)] (vAt vs) A3 n3 k3 es W lo hi (tE.out.below hW (.inr (Nat.le_refl _))) hes (fun v W => by kernel_rfl)
    (fun f lb tg W' hm hW' => mon2_calls f lb tg w.heap.size A4 n4 k4 vs W' lo hi (((hW.trans (hW'.mono hW.size)).cell (p := ⟨w.heap.size, 4, none⟩) hbt).trans c4) (Nat.lt_of_lt_of_le hbt (hW.trans (hW'.mono hW.size)).size) (tW.out.below (hW.trans (hW'.mono hW.size)) (.inr (Nat.le_refl _))) hn4 (hE f lb tg hm).1 (hE f lb tg hm).2)
  replace hE := hide hE
  replace tW := hide tW
  replace tE := hide tE
  cases hany : (vs.any fun v => !(inB v 0 2)) with
  | true =>
    rw [hany] at hval
    simp only [hany] at q1
    have hv : Hid (monV (((n4 : Int), s1, ls, es), vs) = false) := hval
    replace q1 := hide q1
    clear q2 hval hany
    go_wp2_with fail
    refine qv.out.mono ?_
    rintro e w1 ⟨rfl, hb1⟩
    have a0 := (hb1.cell (p := ⟨w.heap.size, 0, none⟩) hbt).trans c0
    have a4 := (hb1.cell (p := ⟨w.heap.size, 4, none⟩) hbt).trans c4
    replace hb1 := hide hb1
    go_wp2_with fail
    refine (q1.out _ hb1.out).mono ?_
    rintro e w2 ⟨rfl, hb2⟩
    replace hb2 := hide hb2
    go_wp2_with fail
    go_ret
    exact ⟨ret_b (by rw [hv.out]), hW0.out.trans ((hb1.out.trans (hb2.out.mono hb1.out.size)).mono (Nat.le_of_lt hbt))⟩
  | false =>
    rw [hany] at hval
    simp only [hany] at q1
    have hv : Hid (monV (((n4 : Int), s1, ls, es), vs) = !(es.any (vAt vs))) := hval
    replace q1 := hide q1
    replace q2 := hide q2
    clear hval hany
    generalize (es.any (vAt vs)) = bb at *
    go_wp2_with fail
    refine qv.out.mono ?_
    rintro e w1 ⟨rfl, hb1⟩
    have a0 := (hb1.cell (p := ⟨w.heap.size, 0, none⟩) hbt).trans c0
    have a4 := (hb1.cell (p := ⟨w.heap.size, 4, none⟩) hbt).trans c4
    replace hb1 := hide hb1
    go_wp2_with fail
    refine (q1.out _ hb1.out).mono ?_
    rintro e w2 ⟨rfl, hb2⟩
    have hb12 := hide (hb1.out.trans (hb2.mono hb1.out.size))
    have d3 := (hb12.out.cell (p := ⟨w.heap.size, 3, none⟩) hbt).trans c3
    clear hb2
    go_wp2_with fail
    refine (q2.out _ hb12.out).mono ?_
    rintro e w3 ⟨rfl, hb3⟩
    replace hb3 := hide hb3
    go_wp2_with fail
    go_ret
    exact ⟨ret_b (by rw [hv.out]), hW0.out.trans ((hb12.out.trans (hb3.out.mono hb12.out.size)).mono (Nat.le_of_lt hbt))⟩

end Go.Proofs.YthlaoedpjloloaaGreatDoor

namespace Go.Proofs.YthlaoedpjloloaaGreatDoor
open Go.ChangeShapes Go.WideShapes Go.ChangeAt Go.RowKit Go.Deep
set_option linter.unusedVariables false

theorem szInt64S_b {v : Value} {d : List Int} {left : Int} {w : World} {lo hi : Nat} (h : ArgI w lo hi v d) (h0 : 0 ≤ left) (h1 : left ≤ 1048576) :
    Calls Tryz.prog 49 #[v, .int .i64 left] w fun e w' => e = .returned (.int .i64 (szLeft left d.length)) ∧ Below w.heap.size w w' := by
  obtain ⟨A, n, c, rfl, h2, h3⟩ := h
  have hl := h3.len
  rw [hl]
  exact (szInt64S_calls A n c left w h2 h0 h1).mono fun e w' ⟨a, b⟩ => ⟨a, b ▸ Below.refl _ _⟩
theorem szStringS_b {v : Value} {d : List ByteArray} {left : Int} {w : World} {lo hi : Nat} (h : ArgS w lo hi v d) (h0 : 0 ≤ left) (h1 : left ≤ 1048576) :
    Calls Tryz.prog 38 #[v, .int .i64 left] w fun e w' => e = .returned (.int .i64 (szLeft left (totS d))) ∧ Below w.heap.size w w' := by
  obtain ⟨A, n, c, rfl, h2, h4, h3⟩ := h
  exact szStringS_calls A n c d left w lo hi h3 h2 h4 h0 h1

abbrev DM := DL × List Int
instance decDM : DecidableEq DM := inferInstanceAs (DecidableEq (DL × List Int))
def ArgM (w : World) (lo hi : Nat) (v : Value) (d : DM) : Prop := ∃ (x : CL) (v4 : Value), v = .agg #[.int .i64 x.1, .int .i64 x.2.1, x.2.2.1, x.2.2.2, v4] ∧ ReadL w lo hi x d.1 ∧ ArgI w lo hi v4 d.2
def totM (d : DM) : Nat := totL d.1 + d.2.length
def FreshM (w : World) (lo hi : Nat) (v : Value) (d : DM) : Prop := ArgM w lo hi v d ∧ totM d ≤ 1048576
section
variable {w w' : World} {lo hi lo' hi' B : Nat} {v : Value} {d : DM}
theorem ArgM.below (h : ArgM w lo hi v d) (hb : Below B w w') (hB : hi ≤ B ∨ w.heap.size ≤ B) : ArgM w' lo hi v d := by
  obtain ⟨x, v4, e, h1, a0⟩ := h
  exact ⟨x, v4, e, h1.below hb hB, a0.below hb hB⟩
theorem FreshM.below (h : FreshM w lo hi v d) (hb : Below B w w') (hB : hi ≤ B ∨ w.heap.size ≤ B) : FreshM w' lo hi v d := ⟨h.1.below hb hB, h.2⟩
end

set_option maxHeartbeats 1600000 in
set_option maxRecDepth 100000 in
theorem szMonitor_u {v : Value} {d : DM} {left : Int} {w : World} {lo hi : Nat} (h : ArgM w lo hi v d) (h0 : 0 ≤ left) (h1 : left ≤ 1048576) :
    Calls Tryz.prog 18 #[v, .int .i64 left] w fun e w' => e = .returned (.int .i64 (szLeft left (totM d))) ∧ Below w.heap.size w w' := by
  obtain ⟨⟨s0, s1, v2, v3⟩, v4, rfl, hL, a0⟩ := h
  dsimp only at *
  have hb0 : Below w.heap.size w (w.alloc (.cells #[.int .i64 s0, .int .i64 s1, v2, v3, v4] 39)) := (Below.refl _ _).alloc (Nat.le_refl _) _
  have k0 := heap_alloc_new w (.cells #[.int .i64 s0, .int .i64 s1, v2, v3, v4] 39)
  have hz : w.heap.size < (w.alloc (.cells #[.int .i64 s0, .int .i64 s1, v2, v3, v4] 39)).heap.size := by rw [World.size_alloc]; omega
  have qL := szLts_b (left := left) (hL.below hb0 (.inr (Nat.le_refl _))) h0 h1
  dsimp only at qL
  have q0 := fun (L : Int) (hL0 : 0 ≤ L) (hL1 : L ≤ 1048576) (W : World) (hW : Below w.heap.size w W) => szInt64S_b (left := L) (a0.below hW (.inr (Nat.le_refl _))) hL0 hL1
  clear a0 hL
  have ht : Hid (totM d = totL d.1 + d.2.length) := rfl
  generalize totL d.1 = T0 at *
  generalize d.2.length = T1 at *
  generalize totM d = TT at *
  by_cases b0 : left < (T0 : Int)
  · rw [szLeft_big b0] at qL
    replace qL := hide qL
    have hv : Hid (szLeft left TT = -1) := by show _ = _; exact szLeft_big (by rw [ht.out]; omega)
    clear q0 b0 ht
    go_enter Tryz.func18, Tryz.ntmps18
    go_wp2_with fail
    refine qL.out.mono ?_
    rintro e w1 ⟨rfl, hb1⟩
    replace k0 := (hb1.block _ hz).trans k0
    replace hb0 := hb0.trans (hb1.mono hb0.size)
    replace hz := Nat.lt_of_lt_of_le hz hb1.size
    clear hb1
    have c0 : w1.cell? ⟨w.heap.size, 0, none⟩ = some (.int .i64 s0) := (cell_of_row _ _ 0 _ _ (0, 0) k0).trans rfl
    have c1 : w1.cell? ⟨w.heap.size, 1, none⟩ = some (.int .i64 s1) := (cell_of_row _ _ 1 _ _ (0, 0) k0).trans rfl
    have c2 : w1.cell? ⟨w.heap.size, 2, none⟩ = some (v2) := (cell_of_row _ _ 2 _ _ (0, 0) k0).trans rfl
    have c3 : w1.cell? ⟨w.heap.size, 3, none⟩ = some (v3) := (cell_of_row _ _ 3 _ _ (0, 0) k0).trans rfl
    have c4 : w1.cell? ⟨w.heap.size, 4, none⟩ = some (v4) := (cell_of_row _ _ 4 _ _ (0, 0) k0).trans rfl
    replace hb0 := hide hb0
    clear k0 hz
    go_wp2_with fail
    go_ret
    exact ⟨ret_i hv.out, hb0.out⟩
  rw [szLeft_fits b0] at qL
  replace qL := hide qL
  have r0 : ¬ left - (T0 : Int) < 0 := by omega
  replace q0 := q0 (left - (T0 : Int)) (by omega) (by omega)
  by_cases b1 : left - (T0 : Int) < (T1 : Int)
  · simp only [szLeft_big b1] at q0
    replace q0 := hide q0
    have hv : Hid (szLeft left TT = -1) := by show _ = _; exact szLeft_big (by rw [ht.out]; omega)
    clear ht b0 b1 
    go_enter Tryz.func18, Tryz.ntmps18
    go_wp2_with fail
    refine qL.out.mono ?_
    rintro e w1 ⟨rfl, hb1⟩
    replace k0 := (hb1.block _ hz).trans k0
    replace hb0 := hb0.trans (hb1.mono hb0.size)
    replace hz := Nat.lt_of_lt_of_le hz hb1.size
    clear hb1
    have c0 : w1.cell? ⟨w.heap.size, 0, none⟩ = some (.int .i64 s0) := (cell_of_row _ _ 0 _ _ (0, 0) k0).trans rfl
    have c1 : w1.cell? ⟨w.heap.size, 1, none⟩ = some (.int .i64 s1) := (cell_of_row _ _ 1 _ _ (0, 0) k0).trans rfl
    have c2 : w1.cell? ⟨w.heap.size, 2, none⟩ = some (v2) := (cell_of_row _ _ 2 _ _ (0, 0) k0).trans rfl
    have c3 : w1.cell? ⟨w.heap.size, 3, none⟩ = some (v3) := (cell_of_row _ _ 3 _ _ (0, 0) k0).trans rfl
    have c4 : w1.cell? ⟨w.heap.size, 4, none⟩ = some (v4) := (cell_of_row _ _ 4 _ _ (0, 0) k0).trans rfl
    go_wp2_with fail
    refine (q0.out _ hb0).mono ?_
    rintro e w2 ⟨rfl, hb1⟩
    clear c0 c1 c2 c3 c4
    replace k0 := (hb1.block _ hz).trans k0
    replace hb0 := hb0.trans (hb1.mono hb0.size)
    replace hz := Nat.lt_of_lt_of_le hz hb1.size
    clear hb1
    have c0 : w2.cell? ⟨w.heap.size, 0, none⟩ = some (.int .i64 s0) := (cell_of_row _ _ 0 _ _ (0, 0) k0).trans rfl
    have c1 : w2.cell? ⟨w.heap.size, 1, none⟩ = some (.int .i64 s1) := (cell_of_row _ _ 1 _ _ (0, 0) k0).trans rfl
    have c2 : w2.cell? ⟨w.heap.size, 2, none⟩ = some (v2) := (cell_of_row _ _ 2 _ _ (0, 0) k0).trans rfl
    have c3 : w2.cell? ⟨w.heap.size, 3, none⟩ = some (v3) := (cell_of_row _ _ 3 _ _ (0, 0) k0).trans rfl
    have c4 : w2.cell? ⟨w.heap.size, 4, none⟩ = some (v4) := (cell_of_row _ _ 4 _ _ (0, 0) k0).trans rfl
    replace hb0 := hide hb0
    clear k0 hz
    go_wp2_with fail
    go_ret
    exact ⟨ret_i hv.out, hb0.out⟩
  simp only [szLeft_fits b1] at q0
  replace q0 := hide q0
  have r1 : ¬ left - (T0 : Int) - (T1 : Int) < 0 := by omega
  have hv : Hid (szLeft left TT = left - (T0 : Int) - (T1 : Int)) := by show _ = _; rw [szLeft_fits (by rw [ht.out]; omega), ht.out]; omega
  clear ht b0 b1
  go_enter Tryz.func18, Tryz.ntmps18
  go_wp2_with fail
  refine qL.out.mono ?_
  rintro e w1 ⟨rfl, hb1⟩
  replace k0 := (hb1.block _ hz).trans k0
  replace hb0 := hb0.trans (hb1.mono hb0.size)
  replace hz := Nat.lt_of_lt_of_le hz hb1.size
  clear hb1
  have c0 : w1.cell? ⟨w.heap.size, 0, none⟩ = some (.int .i64 s0) := (cell_of_row _ _ 0 _ _ (0, 0) k0).trans rfl
  have c1 : w1.cell? ⟨w.heap.size, 1, none⟩ = some (.int .i64 s1) := (cell_of_row _ _ 1 _ _ (0, 0) k0).trans rfl
  have c2 : w1.cell? ⟨w.heap.size, 2, none⟩ = some (v2) := (cell_of_row _ _ 2 _ _ (0, 0) k0).trans rfl
  have c3 : w1.cell? ⟨w.heap.size, 3, none⟩ = some (v3) := (cell_of_row _ _ 3 _ _ (0, 0) k0).trans rfl
  have c4 : w1.cell? ⟨w.heap.size, 4, none⟩ = some (v4) := (cell_of_row _ _ 4 _ _ (0, 0) k0).trans rfl
  go_wp2_with fail
  refine (q0.out _ hb0).mono ?_
  rintro e w2 ⟨rfl, hb1⟩
  clear c0 c1 c2 c3 c4
  replace k0 := (hb1.block _ hz).trans k0
  replace hb0 := hb0.trans (hb1.mono hb0.size)
  replace hz := Nat.lt_of_lt_of_le hz hb1.size
  clear hb1
  have c0 : w2.cell? ⟨w.heap.size, 0, none⟩ = some (.int .i64 s0) := (cell_of_row _ _ 0 _ _ (0, 0) k0).trans rfl
  have c1 : w2.cell? ⟨w.heap.size, 1, none⟩ = some (.int .i64 s1) := (cell_of_row _ _ 1 _ _ (0, 0) k0).trans rfl
  have c2 : w2.cell? ⟨w.heap.size, 2, none⟩ = some (v2) := (cell_of_row _ _ 2 _ _ (0, 0) k0).trans rfl
  have c3 : w2.cell? ⟨w.heap.size, 3, none⟩ = some (v3) := (cell_of_row _ _ 3 _ _ (0, 0) k0).trans rfl
  have c4 : w2.cell? ⟨w.heap.size, 4, none⟩ = some (v4) := (cell_of_row _ _ 4 _ _ (0, 0) k0).trans rfl
  replace hb0 := hide hb0
  clear k0 hz
  go_wp2_with fail
  go_ret
  exact ⟨ret_i hv.out, hb0.out⟩

set_option maxHeartbeats 3200000 in
set_option maxRecDepth 100000 in
theorem toMonitor_u {v : Value} {d : DM} {w : World} {lo hi : Nat} (h : ArgM w lo hi v d) (ht : totM d ≤ 1048576) :
    Calls Tryz.prog 20 #[v] w fun e w' => ∃ v', e = .returned v' ∧ FreshM w' w.heap.size w'.heap.size v' d ∧ Below w.heap.size w w' := by
  have htt := hide ht
  obtain ⟨⟨s0, s1, v2, v3⟩, v4, rfl, hL, a0⟩ := h
  dsimp only at *
  simp only [totM, totL, totS] at ht
  have qL := hide (fun W (hW : Below w.heap.size w W) => toLts_a (hL.below hW (.inr (Nat.le_refl _))) (by simp only [totL, totS]; omega))
  dsimp only at qL
  have q0 := hide (fun W (hW : Below w.heap.size w W) => toInt64S_a (a0.below hW (.inr (Nat.le_refl _))) (by omega))
  clear a0 hL ht
  have k0 : (((w.alloc (.cells #[.int .i64 s0, .int .i64 s1, v2, v3, v4] 39)).alloc (.cells #[.int .i64 0, .int .i64 0, .slice none 0 0, .slice none 0 0, .slice none 0 0] 44)).alloc (.cells #[.int .i64 0, .int .i64 0, .slice none 0 0, .slice none 0 0, .slice none 0 0] 44)).heap[w.heap.size]? = some (.cells #[.int .i64 s0, .int .i64 s1, v2, v3, v4] 39 (0, 0)) := (Below.heap_alloc _ _ _ (by simp only [World.size_alloc]; omega)).trans ((Below.heap_alloc _ _ _ (by simp only [World.size_alloc]; omega)).trans (heap_alloc_new w _))
  have k1 : (((w.alloc (.cells #[.int .i64 s0, .int .i64 s1, v2, v3, v4] 39)).alloc (.cells #[.int .i64 0, .int .i64 0, .slice none 0 0, .slice none 0 0, .slice none 0 0] 44)).alloc (.cells #[.int .i64 0, .int .i64 0, .slice none 0 0, .slice none 0 0, .slice none 0 0] 44)).heap[w.heap.size + 1]? = some (.cells #[.int .i64 0, .int .i64 0, .slice none 0 0, .slice none 0 0, .slice none 0 0] 44 (0, 0)) := by have h := heap_alloc_new (w.alloc (.cells #[.int .i64 s0, .int .i64 s1, v2, v3, v4] 39)) (.cells #[.int .i64 0, .int .i64 0, .slice none 0 0, .slice none 0 0, .slice none 0 0] 44); rw [World.size_alloc] at h; exact (Below.heap_alloc _ _ _ (by simp only [World.size_alloc]; omega)).trans h
  have k2 : (((w.alloc (.cells #[.int .i64 s0, .int .i64 s1, v2, v3, v4] 39)).alloc (.cells #[.int .i64 0, .int .i64 0, .slice none 0 0, .slice none 0 0, .slice none 0 0] 44)).alloc (.cells #[.int .i64 0, .int .i64 0, .slice none 0 0, .slice none 0 0, .slice none 0 0] 44)).heap[w.heap.size + 1 + 1]? = some (.cells #[.int .i64 0, .int .i64 0, .slice none 0 0, .slice none 0 0, .slice none 0 0] 44 (0, 0)) := by have h := heap_alloc_new ((w.alloc (.cells #[.int .i64 s0, .int .i64 s1, v2, v3, v4] 39)).alloc (.cells #[.int .i64 0, .int .i64 0, .slice none 0 0, .slice none 0 0, .slice none 0 0] 44)) (.cells #[.int .i64 0, .int .i64 0, .slice none 0 0, .slice none 0 0, .slice none 0 0] 44); rw [World.size_alloc, World.size_alloc] at h; exact h
  have hb : Below w.heap.size w (((w.alloc (.cells #[.int .i64 s0, .int .i64 s1, v2, v3, v4] 39)).alloc (.cells #[.int .i64 0, .int .i64 0, .slice none 0 0, .slice none 0 0, .slice none 0 0] 44)).alloc (.cells #[.int .i64 0, .int .i64 0, .slice none 0 0, .slice none 0 0, .slice none 0 0] 44)) := (((Below.refl _ _).alloc (Nat.le_refl _) _).alloc (by simp only [World.size_alloc]; omega) _).alloc (by simp only [World.size_alloc]; omega) _
  have hz : w.heap.size + 1 + 1 < (((w.alloc (.cells #[.int .i64 s0, .int .i64 s1, v2, v3, v4] 39)).alloc (.cells #[.int .i64 0, .int .i64 0, .slice none 0 0, .slice none 0 0, .slice none 0 0] 44)).alloc (.cells #[.int .i64 0, .int .i64 0, .slice none 0 0, .slice none 0 0, .slice none 0 0] 44)).heap.size := by simp only [World.size_alloc]; omega
  go_enter Tryz.func20, Tryz.ntmps20
  go_wp2_with fail
  generalize (((w.alloc (.cells #[.int .i64 s0, .int .i64 s1, v2, v3, v4] 39)).alloc (.cells #[.int .i64 0, .int .i64 0, .slice none 0 0, .slice none 0 0, .slice none 0 0] 44)).alloc (.cells #[.int .i64 0, .int .i64 0, .slice none 0 0, .slice none 0 0, .slice none 0 0] 44)) = W at *
  refine (qL.out _ hb).mono ?_
  rintro e w1 ⟨⟨y0, y1, y2, y3⟩, rfl, gL, hb1⟩
  dsimp only at *
  obtain ⟨A2, n2, c2, e2⟩ := gL.2.2.1.shape
  obtain ⟨A3, n3, c3, e3⟩ := gL.2.2.2.shape
  dsimp only at e2 e3
  subst e2 e3
  replace k0 := (hb1.block _ (by omega)).trans k0
  replace k1 := (hb1.block _ (by omega)).trans k1
  replace k2 := (hb1.block _ (by omega)).trans k2
  have hz1 := hb1.size
  try simp only [World.size_setCell] at hz1
  replace gL := gL.more (lo' := w.heap.size + 1 + 1 + 1) (hi' := w1.heap.size) hz (Nat.le_refl _)
  replace hb := hb.trans (hb1.mono hb.size)
  replace hz := Nat.lt_of_lt_of_le hz hb1.size
  clear hz1 hb1
  have a0 : w1.cell? ⟨w.heap.size, 0, none⟩ = some (.int .i64 s0) := (cell_of_row _ _ 0 _ _ (0, 0) k0).trans rfl
  have b0 : w1.cell? ⟨w.heap.size + 1 + 1, 0, none⟩ = some (.int .i64 0) := (cell_of_row _ _ 0 _ _ (0, 0) k2).trans rfl
  have f0 := frozen_of_row _ _ 0 _ _ k2
  have r0 : w1.cell? ⟨w.heap.size + 1, 0, none⟩ = some (.int .i64 0) := (cell_of_row _ _ 0 _ _ (0, 0) k1).trans rfl
  have s0' := frozen_of_row _ _ 0 _ _ k1
  have a1 : w1.cell? ⟨w.heap.size, 1, none⟩ = some (.int .i64 s1) := (cell_of_row _ _ 1 _ _ (0, 0) k0).trans rfl
  have b1 : w1.cell? ⟨w.heap.size + 1 + 1, 1, none⟩ = some (.int .i64 0) := (cell_of_row _ _ 1 _ _ (0, 0) k2).trans rfl
  have f1 := frozen_of_row _ _ 1 _ _ k2
  have r1 : w1.cell? ⟨w.heap.size + 1, 1, none⟩ = some (.int .i64 0) := (cell_of_row _ _ 1 _ _ (0, 0) k1).trans rfl
  have s1' := frozen_of_row _ _ 1 _ _ k1
  have a2 : w1.cell? ⟨w.heap.size, 2, none⟩ = some (v2) := (cell_of_row _ _ 2 _ _ (0, 0) k0).trans rfl
  have b2 : w1.cell? ⟨w.heap.size + 1 + 1, 2, none⟩ = some (.slice none 0 0) := (cell_of_row _ _ 2 _ _ (0, 0) k2).trans rfl
  have f2 := frozen_of_row _ _ 2 _ _ k2
  have r2 : w1.cell? ⟨w.heap.size + 1, 2, none⟩ = some (.slice none 0 0) := (cell_of_row _ _ 2 _ _ (0, 0) k1).trans rfl
  have s2' := frozen_of_row _ _ 2 _ _ k1
  have a3 : w1.cell? ⟨w.heap.size, 3, none⟩ = some (v3) := (cell_of_row _ _ 3 _ _ (0, 0) k0).trans rfl
  have b3 : w1.cell? ⟨w.heap.size + 1 + 1, 3, none⟩ = some (.slice none 0 0) := (cell_of_row _ _ 3 _ _ (0, 0) k2).trans rfl
  have f3 := frozen_of_row _ _ 3 _ _ k2
  have r3 : w1.cell? ⟨w.heap.size + 1, 3, none⟩ = some (.slice none 0 0) := (cell_of_row _ _ 3 _ _ (0, 0) k1).trans rfl
  have s3' := frozen_of_row _ _ 3 _ _ k1
  have a4 : w1.cell? ⟨w.heap.size, 4, none⟩ = some (v4) := (cell_of_row _ _ 4 _ _ (0, 0) k0).trans rfl
  have b4 : w1.cell? ⟨w.heap.size + 1 + 1, 4, none⟩ = some (.slice none 0 0) := (cell_of_row _ _ 4 _ _ (0, 0) k2).trans rfl
  have f4 := frozen_of_row _ _ 4 _ _ k2
  have r4 : w1.cell? ⟨w.heap.size + 1, 4, none⟩ = some (.slice none 0 0) := (cell_of_row _ _ 4 _ _ (0, 0) k1).trans rfl
  have s4' := frozen_of_row _ _ 4 _ _ k1
  go_wp2_with fail
  replace k0 : (w1.setCell ⟨w.heap.size + 1 + 1, 0, none⟩ (.int .i64 y0)).heap[w.heap.size]? = _ := (Below.heap_setCell _ _ _ _ (by show w.heap.size ≠ w.heap.size + 1 + 1; omega)).trans k0
  replace k1 : (w1.setCell ⟨w.heap.size + 1 + 1, 0, none⟩ (.int .i64 y0)).heap[w.heap.size + 1]? = _ := (Below.heap_setCell _ _ _ _ (by show w.heap.size + 1 ≠ w.heap.size + 1 + 1; omega)).trans k1
  replace k2 : (w1.setCell ⟨w.heap.size + 1 + 1, 0, none⟩ (.int .i64 y0)).heap[w.heap.size + 1 + 1]? = some (.cells #[.int .i64 y0, .int .i64 0, .slice none 0 0, .slice none 0 0, .slice none 0 0] 44 (0, 0)) := heap_setCell_same _ _ _ _ _ _ k2
  replace hb : Below w.heap.size w (w1.setCell ⟨w.heap.size + 1 + 1, 0, none⟩ (.int .i64 y0)) := hb.setCell (by show w.heap.size ≤ w.heap.size + 1 + 1; omega) _
  replace hz : w.heap.size + 1 + 1 < (w1.setCell ⟨w.heap.size + 1 + 1, 0, none⟩ (.int .i64 y0)).heap.size := by rw [World.size_setCell]; exact hz
  replace gL := gL.only ((Only.refl (w.heap.size + 1 + 1) (w.heap.size + 1 + 1 + 1) w1).setCell (p := ⟨w.heap.size + 1 + 1, 0, none⟩) (Nat.le_refl _) (Nat.lt_succ_self _) (.int .i64 y0)) (.inr (by omega))
  replace k0 : ((w1.setCell ⟨w.heap.size + 1 + 1, 0, none⟩ (.int .i64 y0)).setCell ⟨w.heap.size + 1 + 1, 1, none⟩ (.int .i64 y1)).heap[w.heap.size]? = _ := (Below.heap_setCell _ _ _ _ (by show w.heap.size ≠ w.heap.size + 1 + 1; omega)).trans k0
  replace k1 : ((w1.setCell ⟨w.heap.size + 1 + 1, 0, none⟩ (.int .i64 y0)).setCell ⟨w.heap.size + 1 + 1, 1, none⟩ (.int .i64 y1)).heap[w.heap.size + 1]? = _ := (Below.heap_setCell _ _ _ _ (by show w.heap.size + 1 ≠ w.heap.size + 1 + 1; omega)).trans k1
  replace k2 : ((w1.setCell ⟨w.heap.size + 1 + 1, 0, none⟩ (.int .i64 y0)).setCell ⟨w.heap.size + 1 + 1, 1, none⟩ (.int .i64 y1)).heap[w.heap.size + 1 + 1]? = some (.cells #[.int .i64 y0, .int .i64 y1, .slice none 0 0, .slice none 0 0, .slice none 0 0] 44 (0, 0)) := heap_setCell_same _ _ _ _ _ _ k2
  replace hb : Below w.heap.size w ((w1.setCell ⟨w.heap.size + 1 + 1, 0, none⟩ (.int .i64 y0)).setCell ⟨w.heap.size + 1 + 1, 1, none⟩ (.int .i64 y1)) := hb.setCell (by show w.heap.size ≤ w.heap.size + 1 + 1; omega) _
  replace hz : w.heap.size + 1 + 1 < ((w1.setCell ⟨w.heap.size + 1 + 1, 0, none⟩ (.int .i64 y0)).setCell ⟨w.heap.size + 1 + 1, 1, none⟩ (.int .i64 y1)).heap.size := by rw [World.size_setCell]; exact hz
  replace gL := gL.only ((Only.refl (w.heap.size + 1 + 1) (w.heap.size + 1 + 1 + 1) (w1.setCell ⟨w.heap.size + 1 + 1, 0, none⟩ (.int .i64 y0))).setCell (p := ⟨w.heap.size + 1 + 1, 1, none⟩) (Nat.le_refl _) (Nat.lt_succ_self _) (.int .i64 y1)) (.inr (by omega))
  replace k0 : (((w1.setCell ⟨w.heap.size + 1 + 1, 0, none⟩ (.int .i64 y0)).setCell ⟨w.heap.size + 1 + 1, 1, none⟩ (.int .i64 y1)).setCell ⟨w.heap.size + 1 + 1, 2, none⟩ (.slice A2 n2 c2)).heap[w.heap.size]? = _ := (Below.heap_setCell _ _ _ _ (by show w.heap.size ≠ w.heap.size + 1 + 1; omega)).trans k0
  replace k1 : (((w1.setCell ⟨w.heap.size + 1 + 1, 0, none⟩ (.int .i64 y0)).setCell ⟨w.heap.size + 1 + 1, 1, none⟩ (.int .i64 y1)).setCell ⟨w.heap.size + 1 + 1, 2, none⟩ (.slice A2 n2 c2)).heap[w.heap.size + 1]? = _ := (Below.heap_setCell _ _ _ _ (by show w.heap.size + 1 ≠ w.heap.size + 1 + 1; omega)).trans k1
  replace k2 : (((w1.setCell ⟨w.heap.size + 1 + 1, 0, none⟩ (.int .i64 y0)).setCell ⟨w.heap.size + 1 + 1, 1, none⟩ (.int .i64 y1)).setCell ⟨w.heap.size + 1 + 1, 2, none⟩ (.slice A2 n2 c2)).heap[w.heap.size + 1 + 1]? = some (.cells #[.int .i64 y0, .int .i64 y1, .slice A2 n2 c2, .slice none 0 0, .slice none 0 0] 44 (0, 0)) := heap_setCell_same _ _ _ _ _ _ k2
  replace hb : Below w.heap.size w (((w1.setCell ⟨w.heap.size + 1 + 1, 0, none⟩ (.int .i64 y0)).setCell ⟨w.heap.size + 1 + 1, 1, none⟩ (.int .i64 y1)).setCell ⟨w.heap.size + 1 + 1, 2, none⟩ (.slice A2 n2 c2)) := hb.setCell (by show w.heap.size ≤ w.heap.size + 1 + 1; omega) _
  replace hz : w.heap.size + 1 + 1 < (((w1.setCell ⟨w.heap.size + 1 + 1, 0, none⟩ (.int .i64 y0)).setCell ⟨w.heap.size + 1 + 1, 1, none⟩ (.int .i64 y1)).setCell ⟨w.heap.size + 1 + 1, 2, none⟩ (.slice A2 n2 c2)).heap.size := by rw [World.size_setCell]; exact hz
  replace gL := gL.only ((Only.refl (w.heap.size + 1 + 1) (w.heap.size + 1 + 1 + 1) ((w1.setCell ⟨w.heap.size + 1 + 1, 0, none⟩ (.int .i64 y0)).setCell ⟨w.heap.size + 1 + 1, 1, none⟩ (.int .i64 y1))).setCell (p := ⟨w.heap.size + 1 + 1, 2, none⟩) (Nat.le_refl _) (Nat.lt_succ_self _) (.slice A2 n2 c2)) (.inr (by omega))
  replace k0 : ((((w1.setCell ⟨w.heap.size + 1 + 1, 0, none⟩ (.int .i64 y0)).setCell ⟨w.heap.size + 1 + 1, 1, none⟩ (.int .i64 y1)).setCell ⟨w.heap.size + 1 + 1, 2, none⟩ (.slice A2 n2 c2)).setCell ⟨w.heap.size + 1 + 1, 3, none⟩ (.slice A3 n3 c3)).heap[w.heap.size]? = _ := (Below.heap_setCell _ _ _ _ (by show w.heap.size ≠ w.heap.size + 1 + 1; omega)).trans k0
  replace k1 : ((((w1.setCell ⟨w.heap.size + 1 + 1, 0, none⟩ (.int .i64 y0)).setCell ⟨w.heap.size + 1 + 1, 1, none⟩ (.int .i64 y1)).setCell ⟨w.heap.size + 1 + 1, 2, none⟩ (.slice A2 n2 c2)).setCell ⟨w.heap.size + 1 + 1, 3, none⟩ (.slice A3 n3 c3)).heap[w.heap.size + 1]? = _ := (Below.heap_setCell _ _ _ _ (by show w.heap.size + 1 ≠ w.heap.size + 1 + 1; omega)).trans k1
  replace k2 : ((((w1.setCell ⟨w.heap.size + 1 + 1, 0, none⟩ (.int .i64 y0)).setCell ⟨w.heap.size + 1 + 1, 1, none⟩ (.int .i64 y1)).setCell ⟨w.heap.size + 1 + 1, 2, none⟩ (.slice A2 n2 c2)).setCell ⟨w.heap.size + 1 + 1, 3, none⟩ (.slice A3 n3 c3)).heap[w.heap.size + 1 + 1]? = some (.cells #[.int .i64 y0, .int .i64 y1, .slice A2 n2 c2, .slice A3 n3 c3, .slice none 0 0] 44 (0, 0)) := heap_setCell_same _ _ _ _ _ _ k2
  replace hb : Below w.heap.size w ((((w1.setCell ⟨w.heap.size + 1 + 1, 0, none⟩ (.int .i64 y0)).setCell ⟨w.heap.size + 1 + 1, 1, none⟩ (.int .i64 y1)).setCell ⟨w.heap.size + 1 + 1, 2, none⟩ (.slice A2 n2 c2)).setCell ⟨w.heap.size + 1 + 1, 3, none⟩ (.slice A3 n3 c3)) := hb.setCell (by show w.heap.size ≤ w.heap.size + 1 + 1; omega) _
  replace hz : w.heap.size + 1 + 1 < ((((w1.setCell ⟨w.heap.size + 1 + 1, 0, none⟩ (.int .i64 y0)).setCell ⟨w.heap.size + 1 + 1, 1, none⟩ (.int .i64 y1)).setCell ⟨w.heap.size + 1 + 1, 2, none⟩ (.slice A2 n2 c2)).setCell ⟨w.heap.size + 1 + 1, 3, none⟩ (.slice A3 n3 c3)).heap.size := by rw [World.size_setCell]; exact hz
  replace gL := gL.only ((Only.refl (w.heap.size + 1 + 1) (w.heap.size + 1 + 1 + 1) (((w1.setCell ⟨w.heap.size + 1 + 1, 0, none⟩ (.int .i64 y0)).setCell ⟨w.heap.size + 1 + 1, 1, none⟩ (.int .i64 y1)).setCell ⟨w.heap.size + 1 + 1, 2, none⟩ (.slice A2 n2 c2))).setCell (p := ⟨w.heap.size + 1 + 1, 3, none⟩) (Nat.le_refl _) (Nat.lt_succ_self _) (.slice A3 n3 c3)) (.inr (by omega))
  refine (q0.out _ hb).mono ?_
  rintro e w2 ⟨u0, rfl, g0, hb1⟩
  clear a0 b0 f0 r0 s0' a1 b1 f1 r1 s1' a2 b2 f2 r2 s2' a3 b3 f3 r3 s3' a4 b4 f4 r4 s4'
  obtain ⟨B0, m0, k0', rfl⟩ := g0.shape
  replace k0 := (hb1.block _ (by omega)).trans k0
  replace k1 := (hb1.block _ (by omega)).trans k1
  replace k2 := (hb1.block _ (by omega)).trans k2
  have hz1 := hb1.size
  try simp only [World.size_setCell] at hz1
  replace gL := (gL.below hb1 (.inr (Nat.le_refl _))).more (lo' := w.heap.size + 1 + 1 + 1) (hi' := w2.heap.size) (Nat.le_refl _) hz1
  replace g0 := g0.more (lo' := w.heap.size + 1 + 1 + 1) (hi' := w2.heap.size) hz (Nat.le_refl _)
  replace hb := hb.trans (hb1.mono hb.size)
  replace hz := Nat.lt_of_lt_of_le hz hb1.size
  clear hz1 hb1
  have a0 : w2.cell? ⟨w.heap.size, 0, none⟩ = some (.int .i64 s0) := (cell_of_row _ _ 0 _ _ (0, 0) k0).trans rfl
  have b0 : w2.cell? ⟨w.heap.size + 1 + 1, 0, none⟩ = some (.int .i64 y0) := (cell_of_row _ _ 0 _ _ (0, 0) k2).trans rfl
  have f0 := frozen_of_row _ _ 0 _ _ k2
  have r0 : w2.cell? ⟨w.heap.size + 1, 0, none⟩ = some (.int .i64 0) := (cell_of_row _ _ 0 _ _ (0, 0) k1).trans rfl
  have s0' := frozen_of_row _ _ 0 _ _ k1
  have a1 : w2.cell? ⟨w.heap.size, 1, none⟩ = some (.int .i64 s1) := (cell_of_row _ _ 1 _ _ (0, 0) k0).trans rfl
  have b1 : w2.cell? ⟨w.heap.size + 1 + 1, 1, none⟩ = some (.int .i64 y1) := (cell_of_row _ _ 1 _ _ (0, 0) k2).trans rfl
  have f1 := frozen_of_row _ _ 1 _ _ k2
  have r1 : w2.cell? ⟨w.heap.size + 1, 1, none⟩ = some (.int .i64 0) := (cell_of_row _ _ 1 _ _ (0, 0) k1).trans rfl
  have s1' := frozen_of_row _ _ 1 _ _ k1
  have a2 : w2.cell? ⟨w.heap.size, 2, none⟩ = some (v2) := (cell_of_row _ _ 2 _ _ (0, 0) k0).trans rfl
  have b2 : w2.cell? ⟨w.heap.size + 1 + 1, 2, none⟩ = some (.slice A2 n2 c2) := (cell_of_row _ _ 2 _ _ (0, 0) k2).trans rfl
  have f2 := frozen_of_row _ _ 2 _ _ k2
  have r2 : w2.cell? ⟨w.heap.size + 1, 2, none⟩ = some (.slice none 0 0) := (cell_of_row _ _ 2 _ _ (0, 0) k1).trans rfl
  have s2' := frozen_of_row _ _ 2 _ _ k1
  have a3 : w2.cell? ⟨w.heap.size, 3, none⟩ = some (v3) := (cell_of_row _ _ 3 _ _ (0, 0) k0).trans rfl
  have b3 : w2.cell? ⟨w.heap.size + 1 + 1, 3, none⟩ = some (.slice A3 n3 c3) := (cell_of_row _ _ 3 _ _ (0, 0) k2).trans rfl
  have f3 := frozen_of_row _ _ 3 _ _ k2
  have r3 : w2.cell? ⟨w.heap.size + 1, 3, none⟩ = some (.slice none 0 0) := (cell_of_row _ _ 3 _ _ (0, 0) k1).trans rfl
  have s3' := frozen_of_row _ _ 3 _ _ k1
  have a4 : w2.cell? ⟨w.heap.size, 4, none⟩ = some (v4) := (cell_of_row _ _ 4 _ _ (0, 0) k0).trans rfl
  have b4 : w2.cell? ⟨w.heap.size + 1 + 1, 4, none⟩ = some (.slice none 0 0) := (cell_of_row _ _ 4 _ _ (0, 0) k2).trans rfl
  have f4 := frozen_of_row _ _ 4 _ _ k2
  have r4 : w2.cell? ⟨w.heap.size + 1, 4, none⟩ = some (.slice none 0 0) := (cell_of_row _ _ 4 _ _ (0, 0) k1).trans rfl
  have s4' := frozen_of_row _ _ 4 _ _ k1
  go_wp2_with fail
  replace k0 : (w2.setCell ⟨w.heap.size + 1 + 1, 4, none⟩ (.slice B0 m0 k0')).heap[w.heap.size]? = _ := (Below.heap_setCell _ _ _ _ (by show w.heap.size ≠ w.heap.size + 1 + 1; omega)).trans k0
  replace k1 : (w2.setCell ⟨w.heap.size + 1 + 1, 4, none⟩ (.slice B0 m0 k0')).heap[w.heap.size + 1]? = _ := (Below.heap_setCell _ _ _ _ (by show w.heap.size + 1 ≠ w.heap.size + 1 + 1; omega)).trans k1
  replace k2 : (w2.setCell ⟨w.heap.size + 1 + 1, 4, none⟩ (.slice B0 m0 k0')).heap[w.heap.size + 1 + 1]? = some (.cells #[.int .i64 y0, .int .i64 y1, .slice A2 n2 c2, .slice A3 n3 c3, .slice B0 m0 k0'] 44 (0, 0)) := heap_setCell_same _ _ _ _ _ _ k2
  replace hb : Below w.heap.size w (w2.setCell ⟨w.heap.size + 1 + 1, 4, none⟩ (.slice B0 m0 k0')) := hb.setCell (by show w.heap.size ≤ w.heap.size + 1 + 1; omega) _
  replace hz : w.heap.size + 1 + 1 < (w2.setCell ⟨w.heap.size + 1 + 1, 4, none⟩ (.slice B0 m0 k0')).heap.size := by rw [World.size_setCell]; exact hz
  replace gL := gL.only ((Only.refl (w.heap.size + 1 + 1) (w.heap.size + 1 + 1 + 1) w2).setCell (p := ⟨w.heap.size + 1 + 1, 4, none⟩) (Nat.le_refl _) (Nat.lt_succ_self _) (.slice B0 m0 k0')) (.inr (by omega))
  replace g0 := g0.only ((Only.refl (w.heap.size + 1 + 1) (w.heap.size + 1 + 1 + 1) w2).setCell (p := ⟨w.heap.size + 1 + 1, 4, none⟩) (Nat.le_refl _) (Nat.lt_succ_self _) (.slice B0 m0 k0')) (.inr (by omega))
  have hbF : Below w.heap.size w ((((((w2.setCell ⟨w.heap.size + 1 + 1, 4, none⟩ (.slice B0 m0 k0')).setCell ⟨w.heap.size + 1, 0, none⟩ (.int .i64 y0)).setCell ⟨w.heap.size + 1, 1, none⟩ (.int .i64 y1)).setCell ⟨w.heap.size + 1, 2, none⟩ (.slice A2 n2 c2)).setCell ⟨w.heap.size + 1, 3, none⟩ (.slice A3 n3 c3)).setCell ⟨w.heap.size + 1, 4, none⟩ (.slice B0 m0 k0')) := (((((hb.setCell (by show w.heap.size ≤ w.heap.size + 1; omega) _).setCell (by show w.heap.size ≤ w.heap.size + 1; omega) _).setCell (by show w.heap.size ≤ w.heap.size + 1; omega) _).setCell (by show w.heap.size ≤ w.heap.size + 1; omega) _).setCell (by show w.heap.size ≤ w.heap.size + 1; omega) _)
  have hoF : Only (w.heap.size + 1) (w.heap.size + 1 + 1) (w2.setCell ⟨w.heap.size + 1 + 1, 4, none⟩ (.slice B0 m0 k0')) ((((((w2.setCell ⟨w.heap.size + 1 + 1, 4, none⟩ (.slice B0 m0 k0')).setCell ⟨w.heap.size + 1, 0, none⟩ (.int .i64 y0)).setCell ⟨w.heap.size + 1, 1, none⟩ (.int .i64 y1)).setCell ⟨w.heap.size + 1, 2, none⟩ (.slice A2 n2 c2)).setCell ⟨w.heap.size + 1, 3, none⟩ (.slice A3 n3 c3)).setCell ⟨w.heap.size + 1, 4, none⟩ (.slice B0 m0 k0')) := ((((((Only.refl (w.heap.size + 1) (w.heap.size + 1 + 1) (w2.setCell ⟨w.heap.size + 1 + 1, 4, none⟩ (.slice B0 m0 k0'))).setCell (p := ⟨w.heap.size + 1, 0, none⟩) (Nat.le_refl _) (Nat.lt_succ_self _) (.int .i64 y0)).setCell (p := ⟨w.heap.size + 1, 1, none⟩) (Nat.le_refl _) (Nat.lt_succ_self _) (.int .i64 y1)).setCell (p := ⟨w.heap.size + 1, 2, none⟩) (Nat.le_refl _) (Nat.lt_succ_self _) (.slice A2 n2 c2)).setCell (p := ⟨w.heap.size + 1, 3, none⟩) (Nat.le_refl _) (Nat.lt_succ_self _) (.slice A3 n3 c3)).setCell (p := ⟨w.heap.size + 1, 4, none⟩) (Nat.le_refl _) (Nat.lt_succ_self _) (.slice B0 m0 k0'))
  replace gL := (gL.only hoF (.inr (by omega))).more (lo' := w.heap.size) (hi' := ((((((w2.setCell ⟨w.heap.size + 1 + 1, 4, none⟩ (.slice B0 m0 k0')).setCell ⟨w.heap.size + 1, 0, none⟩ (.int .i64 y0)).setCell ⟨w.heap.size + 1, 1, none⟩ (.int .i64 y1)).setCell ⟨w.heap.size + 1, 2, none⟩ (.slice A2 n2 c2)).setCell ⟨w.heap.size + 1, 3, none⟩ (.slice A3 n3 c3)).setCell ⟨w.heap.size + 1, 4, none⟩ (.slice B0 m0 k0')).heap.size) (by omega) (by simp only [World.size_setCell]; exact Nat.le_refl _)
  replace g0 := (g0.only hoF (.inr (by omega))).more (lo' := w.heap.size) (hi' := ((((((w2.setCell ⟨w.heap.size + 1 + 1, 4, none⟩ (.slice B0 m0 k0')).setCell ⟨w.heap.size + 1, 0, none⟩ (.int .i64 y0)).setCell ⟨w.heap.size + 1, 1, none⟩ (.int .i64 y1)).setCell ⟨w.heap.size + 1, 2, none⟩ (.slice A2 n2 c2)).setCell ⟨w.heap.size + 1, 3, none⟩ (.slice A3 n3 c3)).setCell ⟨w.heap.size + 1, 4, none⟩ (.slice B0 m0 k0')).heap.size) (by omega) (by simp only [World.size_setCell]; exact Nat.le_refl _)
  have kF : ((((((w2.setCell ⟨w.heap.size + 1 + 1, 4, none⟩ (.slice B0 m0 k0')).setCell ⟨w.heap.size + 1, 0, none⟩ (.int .i64 y0)).setCell ⟨w.heap.size + 1, 1, none⟩ (.int .i64 y1)).setCell ⟨w.heap.size + 1, 2, none⟩ (.slice A2 n2 c2)).setCell ⟨w.heap.size + 1, 3, none⟩ (.slice A3 n3 c3)).setCell ⟨w.heap.size + 1, 4, none⟩ (.slice B0 m0 k0')).heap[w.heap.size + 1]? = some (.cells #[.int .i64 y0, .int .i64 y1, .slice A2 n2 c2, .slice A3 n3 c3, .slice B0 m0 k0'] 44 (0, 0)) := (heap_setCell_same _ _ _ _ _ _ (heap_setCell_same _ _ _ _ _ _ (heap_setCell_same _ _ _ _ _ _ (heap_setCell_same _ _ _ _ _ _ (heap_setCell_same _ _ _ _ _ _ k1)))))
  clear a0 b0 f0 r0 s0' a1 b1 f1 r1 s1' a2 b2 f2 r2 s2' a3 b3 f3 r3 s3' a4 b4 f4 r4 s4'
  have rF0 : ((((((w2.setCell ⟨w.heap.size + 1 + 1, 4, none⟩ (.slice B0 m0 k0')).setCell ⟨w.heap.size + 1, 0, none⟩ (.int .i64 y0)).setCell ⟨w.heap.size + 1, 1, none⟩ (.int .i64 y1)).setCell ⟨w.heap.size + 1, 2, none⟩ (.slice A2 n2 c2)).setCell ⟨w.heap.size + 1, 3, none⟩ (.slice A3 n3 c3)).setCell ⟨w.heap.size + 1, 4, none⟩ (.slice B0 m0 k0')).cell? ⟨w.heap.size + 1, 0, none⟩ = some (.int .i64 y0) := (cell_of_row _ _ 0 _ _ (0, 0) kF).trans rfl
  have rF1 : ((((((w2.setCell ⟨w.heap.size + 1 + 1, 4, none⟩ (.slice B0 m0 k0')).setCell ⟨w.heap.size + 1, 0, none⟩ (.int .i64 y0)).setCell ⟨w.heap.size + 1, 1, none⟩ (.int .i64 y1)).setCell ⟨w.heap.size + 1, 2, none⟩ (.slice A2 n2 c2)).setCell ⟨w.heap.size + 1, 3, none⟩ (.slice A3 n3 c3)).setCell ⟨w.heap.size + 1, 4, none⟩ (.slice B0 m0 k0')).cell? ⟨w.heap.size + 1, 1, none⟩ = some (.int .i64 y1) := (cell_of_row _ _ 1 _ _ (0, 0) kF).trans rfl
  have rF2 : ((((((w2.setCell ⟨w.heap.size + 1 + 1, 4, none⟩ (.slice B0 m0 k0')).setCell ⟨w.heap.size + 1, 0, none⟩ (.int .i64 y0)).setCell ⟨w.heap.size + 1, 1, none⟩ (.int .i64 y1)).setCell ⟨w.heap.size + 1, 2, none⟩ (.slice A2 n2 c2)).setCell ⟨w.heap.size + 1, 3, none⟩ (.slice A3 n3 c3)).setCell ⟨w.heap.size + 1, 4, none⟩ (.slice B0 m0 k0')).cell? ⟨w.heap.size + 1, 2, none⟩ = some (.slice A2 n2 c2) := (cell_of_row _ _ 2 _ _ (0, 0) kF).trans rfl
  have rF3 : ((((((w2.setCell ⟨w.heap.size + 1 + 1, 4, none⟩ (.slice B0 m0 k0')).setCell ⟨w.heap.size + 1, 0, none⟩ (.int .i64 y0)).setCell ⟨w.heap.size + 1, 1, none⟩ (.int .i64 y1)).setCell ⟨w.heap.size + 1, 2, none⟩ (.slice A2 n2 c2)).setCell ⟨w.heap.size + 1, 3, none⟩ (.slice A3 n3 c3)).setCell ⟨w.heap.size + 1, 4, none⟩ (.slice B0 m0 k0')).cell? ⟨w.heap.size + 1, 3, none⟩ = some (.slice A3 n3 c3) := (cell_of_row _ _ 3 _ _ (0, 0) kF).trans rfl
  have rF4 : ((((((w2.setCell ⟨w.heap.size + 1 + 1, 4, none⟩ (.slice B0 m0 k0')).setCell ⟨w.heap.size + 1, 0, none⟩ (.int .i64 y0)).setCell ⟨w.heap.size + 1, 1, none⟩ (.int .i64 y1)).setCell ⟨w.heap.size + 1, 2, none⟩ (.slice A2 n2 c2)).setCell ⟨w.heap.size + 1, 3, none⟩ (.slice A3 n3 c3)).setCell ⟨w.heap.size + 1, 4, none⟩ (.slice B0 m0 k0')).cell? ⟨w.heap.size + 1, 4, none⟩ = some (.slice B0 m0 k0') := (cell_of_row _ _ 4 _ _ (0, 0) kF).trans rfl
  clear hoF hb hz k0 k1 k2 kF qL q0
  generalize ((((((w2.setCell ⟨w.heap.size + 1 + 1, 4, none⟩ (.slice B0 m0 k0')).setCell ⟨w.heap.size + 1, 0, none⟩ (.int .i64 y0)).setCell ⟨w.heap.size + 1, 1, none⟩ (.int .i64 y1)).setCell ⟨w.heap.size + 1, 2, none⟩ (.slice A2 n2 c2)).setCell ⟨w.heap.size + 1, 3, none⟩ (.slice A3 n3 c3)).setCell ⟨w.heap.size + 1, 4, none⟩ (.slice B0 m0 k0')) = WF at *
  refine bodyPost_ret (by simp [results, Tryz.results20, go_sem, rF0, rF1, rF2, rF3, rF4]; try rfl) rfl ?_
  exact ⟨_, rfl, ⟨⟨(y0, y1, .slice A2 n2 c2, .slice A3 n3 c3), _, rfl, gL, g0⟩, htt.out⟩, hbF⟩

set_option maxHeartbeats 1600000 in
set_option maxRecDepth 100000 in
theorem eqMonitor_u {v u : Value} {d e : DM} {w : World} {lo hi lo' hi' : Nat} (h : FreshM w lo hi v d) (g : FreshM w lo' hi' u e) :
    Calls Tryz.prog 23 #[v, u] w fun r w' => r = .returned (.bool (decide (d = e))) ∧ Below w.heap.size w w' := by
  obtain ⟨⟨⟨s0, s1, v2, v3⟩, v4, rfl, hL, a0⟩, ht⟩ := h
  obtain ⟨⟨⟨t0, t1, y2, y3⟩, y4, rfl, gL, g0⟩, gt⟩ := g
  dsimp only at *
  simp only [totM, totL, totS] at ht gt
  have k0 : ((w.alloc (.cells #[.int .i64 s0, .int .i64 s1, v2, v3, v4] 44)).alloc (.cells #[.int .i64 t0, .int .i64 t1, y2, y3, y4] 44)).heap[w.heap.size]? = some (.cells #[.int .i64 s0, .int .i64 s1, v2, v3, v4] 44 (0, 0)) := (Below.heap_alloc _ _ _ (by simp only [World.size_alloc]; omega)).trans (heap_alloc_new w _)
  have k1 : ((w.alloc (.cells #[.int .i64 s0, .int .i64 s1, v2, v3, v4] 44)).alloc (.cells #[.int .i64 t0, .int .i64 t1, y2, y3, y4] 44)).heap[w.heap.size + 1]? = some (.cells #[.int .i64 t0, .int .i64 t1, y2, y3, y4] 44 (0, 0)) := by have h := heap_alloc_new (w.alloc (.cells #[.int .i64 s0, .int .i64 s1, v2, v3, v4] 44)) (.cells #[.int .i64 t0, .int .i64 t1, y2, y3, y4] 44); rw [World.size_alloc] at h; exact h
  have hb : Below w.heap.size w ((w.alloc (.cells #[.int .i64 s0, .int .i64 s1, v2, v3, v4] 44)).alloc (.cells #[.int .i64 t0, .int .i64 t1, y2, y3, y4] 44)) := ((Below.refl _ _).alloc (Nat.le_refl _) _).alloc (by simp only [World.size_alloc]; omega) _
  have hz : w.heap.size + 1 < ((w.alloc (.cells #[.int .i64 s0, .int .i64 s1, v2, v3, v4] 44)).alloc (.cells #[.int .i64 t0, .int .i64 t1, y2, y3, y4] 44)).heap.size := by simp only [World.size_alloc]; omega
  have qL := fun W (hW : Below w.heap.size w W) => eqLts_a (hL.below hW (.inr (Nat.le_refl _))) (gL.below hW (.inr (Nat.le_refl _))) (by simp only [totL, totS]; omega) (by simp only [totL, totS]; omega)
  dsimp only at qL
  have q0 := fun W (hW : Below w.heap.size w W) => eqInt64S_a (a0.below hW (.inr (Nat.le_refl _))) (g0.below hW (.inr (Nat.le_refl _))) (by omega) (by omega)
  clear a0 g0 hL gL ht gt
  have hde : Hid (decide (d = e) = (decide (d.1 = e.1) && decide (d.2 = e.2))) := by
    show _ = _
    obtain ⟨d1, d2⟩ := d; obtain ⟨e1, e2⟩ := e
    rw [Bool.eq_iff_iff]; simp [Prod.mk.injEq]
  generalize decide (d.1 = e.1) = C0 at *
  generalize decide (d.2 = e.2) = C1 at *
  generalize decide (d = e) = CC at *
  cases C0 with
  | false =>
    replace qL := hide qL
    clear q0
    replace hde : Hid (CC = false) := by show _ = _; first | (rw [hde.out]; rfl) | rw [hde.out]
    go_enter Tryz.func23, Tryz.ntmps23
    go_wp2_with fail
    refine (qL.out _ hb).mono ?_
    rintro r w1 ⟨rfl, hb1⟩
    replace k0 := (hb1.block _ (by omega)).trans k0
    replace k1 := (hb1.block _ (by omega)).trans k1
    replace hb := hb.trans (hb1.mono hb.size)
    replace hz := Nat.lt_of_lt_of_le hz hb1.size
    clear hb1
    have a0 : w1.cell? ⟨w.heap.size, 0, none⟩ = some (.int .i64 s0) := (cell_of_row _ _ 0 _ _ (0, 0) k0).trans rfl
    have b0 : w1.cell? ⟨w.heap.size + 1, 0, none⟩ = some (.int .i64 t0) := (cell_of_row _ _ 0 _ _ (0, 0) k1).trans rfl
    have a1 : w1.cell? ⟨w.heap.size, 1, none⟩ = some (.int .i64 s1) := (cell_of_row _ _ 1 _ _ (0, 0) k0).trans rfl
    have b1 : w1.cell? ⟨w.heap.size + 1, 1, none⟩ = some (.int .i64 t1) := (cell_of_row _ _ 1 _ _ (0, 0) k1).trans rfl
    have a2 : w1.cell? ⟨w.heap.size, 2, none⟩ = some (v2) := (cell_of_row _ _ 2 _ _ (0, 0) k0).trans rfl
    have b2 : w1.cell? ⟨w.heap.size + 1, 2, none⟩ = some (y2) := (cell_of_row _ _ 2 _ _ (0, 0) k1).trans rfl
    have a3 : w1.cell? ⟨w.heap.size, 3, none⟩ = some (v3) := (cell_of_row _ _ 3 _ _ (0, 0) k0).trans rfl
    have b3 : w1.cell? ⟨w.heap.size + 1, 3, none⟩ = some (y3) := (cell_of_row _ _ 3 _ _ (0, 0) k1).trans rfl
    have a4 : w1.cell? ⟨w.heap.size, 4, none⟩ = some (v4) := (cell_of_row _ _ 4 _ _ (0, 0) k0).trans rfl
    have b4 : w1.cell? ⟨w.heap.size + 1, 4, none⟩ = some (y4) := (cell_of_row _ _ 4 _ _ (0, 0) k1).trans rfl
    clear k0 k1 hz
    replace hb := hide hb
    go_wp2_with fail
    go_ret
    exact ⟨ret_b (by first | (rw [hde.out]; rfl) | rw [hde.out]), hb.out⟩
  | true =>
  replace qL := hide qL
  cases C1 with
  | false =>
    replace q0 := hide q0
    go_enter Tryz.func23, Tryz.ntmps23
    go_wp2_with fail
    refine (qL.out _ hb).mono ?_
    rintro r w1 ⟨rfl, hb1⟩
    replace k0 := (hb1.block _ (by omega)).trans k0
    replace k1 := (hb1.block _ (by omega)).trans k1
    replace hb := hb.trans (hb1.mono hb.size)
    replace hz := Nat.lt_of_lt_of_le hz hb1.size
    clear hb1
    have a0 : w1.cell? ⟨w.heap.size, 0, none⟩ = some (.int .i64 s0) := (cell_of_row _ _ 0 _ _ (0, 0) k0).trans rfl
    have b0 : w1.cell? ⟨w.heap.size + 1, 0, none⟩ = some (.int .i64 t0) := (cell_of_row _ _ 0 _ _ (0, 0) k1).trans rfl
    have a1 : w1.cell? ⟨w.heap.size, 1, none⟩ = some (.int .i64 s1) := (cell_of_row _ _ 1 _ _ (0, 0) k0).trans rfl
    have b1 : w1.cell? ⟨w.heap.size + 1, 1, none⟩ = some (.int .i64 t1) := (cell_of_row _ _ 1 _ _ (0, 0) k1).trans rfl
    have a2 : w1.cell? ⟨w.heap.size, 2, none⟩ = some (v2) := (cell_of_row _ _ 2 _ _ (0, 0) k0).trans rfl
    have b2 : w1.cell? ⟨w.heap.size + 1, 2, none⟩ = some (y2) := (cell_of_row _ _ 2 _ _ (0, 0) k1).trans rfl
    have a3 : w1.cell? ⟨w.heap.size, 3, none⟩ = some (v3) := (cell_of_row _ _ 3 _ _ (0, 0) k0).trans rfl
    have b3 : w1.cell? ⟨w.heap.size + 1, 3, none⟩ = some (y3) := (cell_of_row _ _ 3 _ _ (0, 0) k1).trans rfl
    have a4 : w1.cell? ⟨w.heap.size, 4, none⟩ = some (v4) := (cell_of_row _ _ 4 _ _ (0, 0) k0).trans rfl
    have b4 : w1.cell? ⟨w.heap.size + 1, 4, none⟩ = some (y4) := (cell_of_row _ _ 4 _ _ (0, 0) k1).trans rfl
    go_wp2_with fail
    refine (q0.out _ hb).mono ?_
    rintro r w2 ⟨rfl, hb1⟩
    clear a0 b0 a1 b1 a2 b2 a3 b3 a4 b4
    replace k0 := (hb1.block _ (by omega)).trans k0
    replace k1 := (hb1.block _ (by omega)).trans k1
    replace hb := hb.trans (hb1.mono hb.size)
    replace hz := Nat.lt_of_lt_of_le hz hb1.size
    clear hb1
    have a0 : w2.cell? ⟨w.heap.size, 0, none⟩ = some (.int .i64 s0) := (cell_of_row _ _ 0 _ _ (0, 0) k0).trans rfl
    have b0 : w2.cell? ⟨w.heap.size + 1, 0, none⟩ = some (.int .i64 t0) := (cell_of_row _ _ 0 _ _ (0, 0) k1).trans rfl
    have a1 : w2.cell? ⟨w.heap.size, 1, none⟩ = some (.int .i64 s1) := (cell_of_row _ _ 1 _ _ (0, 0) k0).trans rfl
    have b1 : w2.cell? ⟨w.heap.size + 1, 1, none⟩ = some (.int .i64 t1) := (cell_of_row _ _ 1 _ _ (0, 0) k1).trans rfl
    have a2 : w2.cell? ⟨w.heap.size, 2, none⟩ = some (v2) := (cell_of_row _ _ 2 _ _ (0, 0) k0).trans rfl
    have b2 : w2.cell? ⟨w.heap.size + 1, 2, none⟩ = some (y2) := (cell_of_row _ _ 2 _ _ (0, 0) k1).trans rfl
    have a3 : w2.cell? ⟨w.heap.size, 3, none⟩ = some (v3) := (cell_of_row _ _ 3 _ _ (0, 0) k0).trans rfl
    have b3 : w2.cell? ⟨w.heap.size + 1, 3, none⟩ = some (y3) := (cell_of_row _ _ 3 _ _ (0, 0) k1).trans rfl
    have a4 : w2.cell? ⟨w.heap.size, 4, none⟩ = some (v4) := (cell_of_row _ _ 4 _ _ (0, 0) k0).trans rfl
    have b4 : w2.cell? ⟨w.heap.size + 1, 4, none⟩ = some (y4) := (cell_of_row _ _ 4 _ _ (0, 0) k1).trans rfl
    clear k0 k1 hz
    replace hb := hide hb
    go_wp2_with fail
    go_ret
    exact ⟨ret_b (by first | (rw [hde.out]; rfl) | rw [hde.out]), hb.out⟩
  | true =>
  replace q0 := hide q0
  go_enter Tryz.func23, Tryz.ntmps23
  go_wp2_with fail
  refine (qL.out _ hb).mono ?_
  rintro r w1 ⟨rfl, hb1⟩
  replace k0 := (hb1.block _ (by omega)).trans k0
  replace k1 := (hb1.block _ (by omega)).trans k1
  replace hb := hb.trans (hb1.mono hb.size)
  replace hz := Nat.lt_of_lt_of_le hz hb1.size
  clear hb1
  have a0 : w1.cell? ⟨w.heap.size, 0, none⟩ = some (.int .i64 s0) := (cell_of_row _ _ 0 _ _ (0, 0) k0).trans rfl
  have b0 : w1.cell? ⟨w.heap.size + 1, 0, none⟩ = some (.int .i64 t0) := (cell_of_row _ _ 0 _ _ (0, 0) k1).trans rfl
  have a1 : w1.cell? ⟨w.heap.size, 1, none⟩ = some (.int .i64 s1) := (cell_of_row _ _ 1 _ _ (0, 0) k0).trans rfl
  have b1 : w1.cell? ⟨w.heap.size + 1, 1, none⟩ = some (.int .i64 t1) := (cell_of_row _ _ 1 _ _ (0, 0) k1).trans rfl
  have a2 : w1.cell? ⟨w.heap.size, 2, none⟩ = some (v2) := (cell_of_row _ _ 2 _ _ (0, 0) k0).trans rfl
  have b2 : w1.cell? ⟨w.heap.size + 1, 2, none⟩ = some (y2) := (cell_of_row _ _ 2 _ _ (0, 0) k1).trans rfl
  have a3 : w1.cell? ⟨w.heap.size, 3, none⟩ = some (v3) := (cell_of_row _ _ 3 _ _ (0, 0) k0).trans rfl
  have b3 : w1.cell? ⟨w.heap.size + 1, 3, none⟩ = some (y3) := (cell_of_row _ _ 3 _ _ (0, 0) k1).trans rfl
  have a4 : w1.cell? ⟨w.heap.size, 4, none⟩ = some (v4) := (cell_of_row _ _ 4 _ _ (0, 0) k0).trans rfl
  have b4 : w1.cell? ⟨w.heap.size + 1, 4, none⟩ = some (y4) := (cell_of_row _ _ 4 _ _ (0, 0) k1).trans rfl
  go_wp2_with fail
  refine (q0.out _ hb).mono ?_
  rintro r w2 ⟨rfl, hb1⟩
  clear a0 b0 a1 b1 a2 b2 a3 b3 a4 b4
  replace k0 := (hb1.block _ (by omega)).trans k0
  replace k1 := (hb1.block _ (by omega)).trans k1
  replace hb := hb.trans (hb1.mono hb.size)
  replace hz := Nat.lt_of_lt_of_le hz hb1.size
  clear hb1
  have a0 : w2.cell? ⟨w.heap.size, 0, none⟩ = some (.int .i64 s0) := (cell_of_row _ _ 0 _ _ (0, 0) k0).trans rfl
  have b0 : w2.cell? ⟨w.heap.size + 1, 0, none⟩ = some (.int .i64 t0) := (cell_of_row _ _ 0 _ _ (0, 0) k1).trans rfl
  have a1 : w2.cell? ⟨w.heap.size, 1, none⟩ = some (.int .i64 s1) := (cell_of_row _ _ 1 _ _ (0, 0) k0).trans rfl
  have b1 : w2.cell? ⟨w.heap.size + 1, 1, none⟩ = some (.int .i64 t1) := (cell_of_row _ _ 1 _ _ (0, 0) k1).trans rfl
  have a2 : w2.cell? ⟨w.heap.size, 2, none⟩ = some (v2) := (cell_of_row _ _ 2 _ _ (0, 0) k0).trans rfl
  have b2 : w2.cell? ⟨w.heap.size + 1, 2, none⟩ = some (y2) := (cell_of_row _ _ 2 _ _ (0, 0) k1).trans rfl
  have a3 : w2.cell? ⟨w.heap.size, 3, none⟩ = some (v3) := (cell_of_row _ _ 3 _ _ (0, 0) k0).trans rfl
  have b3 : w2.cell? ⟨w.heap.size + 1, 3, none⟩ = some (y3) := (cell_of_row _ _ 3 _ _ (0, 0) k1).trans rfl
  have a4 : w2.cell? ⟨w.heap.size, 4, none⟩ = some (v4) := (cell_of_row _ _ 4 _ _ (0, 0) k0).trans rfl
  have b4 : w2.cell? ⟨w.heap.size + 1, 4, none⟩ = some (y4) := (cell_of_row _ _ 4 _ _ (0, 0) k1).trans rfl
  clear k0 k1 hz
  replace hb := hide hb
  go_wp2_with fail
  go_ret
  exact ⟨ret_b (by first | (rw [hde.out]; rfl) | rw [hde.out]), hb.out⟩

end Go.Proofs.YthlaoedpjloloaaGreatDoor

namespace Go.Proofs.YthlaoedpjloloaaGreatDoor
open Go.ChangeShapes Go.WideShapes Go.ChangeAt Go.RowKit Go.Lib
set_option linter.unusedVariables false

def cellsD : DataW Unit → List Value
  | .agg l => l.flatMap fun x => match x with
    | .lit (.int k z) => [.int k z]
    | _ => []
  | _ => []
noncomputable def laidWorld (os : Os) : World :=
  let w0 := World.doorLaid Tryz.prog 400 os
  { w0 with heap := w0.heap.modify 3 fun
      | .cells _ t f => .cells (cellsD Rows.laid_unicode_utf8_first).toArray t f
      | o => o }
theorem laid_met (os : Os) (args : Array Value) : laidMet Tryz.prog Rows.fnExactSimulationRoundRow.laid ((laidWorld os).forCall (fun _ _ => 0) ⟨#[], args, []⟩).memory :=
  laidMet_of_run' 8 (by kernel_rfl) (by kernel_rfl)

end Go.Proofs.YthlaoedpjloloaaGreatDoor

namespace Go.Proofs.YthlaoedpjloloaaGreatDoor
open Go.ChangeShapes Go.WideShapes Go.ChangeAt Go.RowKit Go.Deep
set_option linter.unusedVariables false

abbrev laidL : List (String × DataW Unit) := Rows.fnExactSimulationRoundRow.laid
theorem pow_data : (Rows.laid_internal_strconv_uint64pow10 : DataW Unit) = Lib.tabData .u64 Lib.pow10Tab := by kernel_rfl
theorem good_of {W : World} (h : laidMet Tryz.prog laidL W) (hS : W.ShapedOpen Tryz.prog) : Good W := by
  have h3 : laidMet Tryz.prog (("internal/strconv.uint64pow10", Lib.tabData .u64 Lib.pow10Tab) :: [("unicode/utf8.acceptRanges", Rows.laid_unicode_utf8_acceptRanges), ("strconv.ErrRange", Rows.laid_strconv_ErrRange), ("strconv.ErrSyntax", Rows.laid_strconv_ErrSyntax), ("unicode/utf8.first", Rows.laid_unicode_utf8_first)]) W := by
    rw [← pow_data]
    exact h.tail.tail
  have h6 : laidMet Tryz.prog (("strconv.ErrSyntax", Rows.laid_strconv_ErrSyntax) :: [("unicode/utf8.first", Rows.laid_unicode_utf8_first)]) W := h3.tail.tail.tail
  refine ⟨hS, Lib.tabIs_of_head (g := 5) (t := 270) (e := 185) (n := 20) (by kernel_rfl) (by kernel_rfl) Tryz.underlying270 Tryz.underlying185 (by kernel_rfl) (by kernel_rfl) h3, ?_⟩
  obtain ⟨ps, ⟨g0, t0, cs0, f0, p0, q0, hg0, ht0, hv0, hd0, _, e0⟩, _, hrows⟩ := h6
  have hg : Tryz.prog.globalNamed "strconv.ErrSyntax" = some 1 := by kernel_rfl
  have ht : (Tryz.prog.globals[1]?).map (·.type) = some 214 := by kernel_rfl
  obtain rfl := Option.some.inj (hg.symm.trans hg0)
  obtain rfl := Option.some.inj (ht.symm.trans ht0)
  obtain ⟨l0⟩ := cs0
  obtain ⟨_, u, v, e1, _, _⟩ := iface_of_trod Tryz.underlying214 hd0
  have e2 : l0 = [.iface u v] := e1
  subst e2
  exact ⟨u, v, hv0⟩

section
variable {H : Type} {enc : TypeId × Value → H} {P : Program} {w : World} {base : Nat} {spare : Nat → Bool} {held : Bool}
/-- One field of a struct, at its place. -/
theorem fieldN {t : TypeId} {fs : Array Field} (hs : P.underlying t = some (.struct fs)) {fuel : Nat} {cs : List Value} {x : DataW H × List MemPlace} (h : DataW.trod enc P w base spare held fuel t cs = some x)
    (i : Nat) (f : Field) (hf : fs[i]? = some f) : ∃ (n : Nat) (y : DataW H × List MemPlace), DataW.trod enc P w base spare held n f.type ((cs.drop f.offset).take (P.cellsOf f.type)) = some y ∧ ∀ m ∈ y.2, m ∈ x.2 := by
  obtain ⟨xs, n, _, rfl, hcl, hxl, hg⟩ := DataW.trod_struct hs h
  have hi : i < fs.size := (Array.getElem?_eq_some_iff.1 hf).1
  have g := hg i f hf
  have hx : xs[i]? = some xs[i] := List.getElem?_eq_getElem (by omega)
  rw [hx] at g
  exact ⟨n, xs[i], g, fun m hm => List.mem_flatMap.2 ⟨xs[i], List.getElem_mem _, hm⟩⟩
theorem read_S {t e : TypeId} (ht : P.underlying t = some (.slice e)) (hC : P.cellsOf e = 1) (hi : P.underlying e = some .string) {fuel : Nat} {c : Value} {r : DataW H × List MemPlace} (h : DataW.trod enc P w base spare held fuel t [c] = some r)
    (hz : ∀ b off, MemPlace.cell b off ∈ r.2 → w.frozen? ⟨b, off, none⟩ = false) : ∃ d, ArgS w base w.heap.size c d := by
  obtain ⟨A, n, k, l, e1, e2, e3, e4⟩ := open_flatQ (w := w) (base := base) (spare := spare) (held := held) strv (fun s => s.size ≤ maxLen) ht hC (by omega) (fun fuel cs y hy hl _ => by
    obtain ⟨a, ea, _, na⟩ := DataW.trod_string hi hy
    exact ⟨a, ea, na⟩) h hz
  simp at e1
  exact ⟨l, A, n, k, e1, e2, e4, e3⟩
theorem read_E {t e ft : TypeId} {f0 f1 f2 : Field} (ht : P.underlying t = some (.slice e)) (he : P.underlying e = some (.struct #[f0, f1, f2])) (hone : oneCellFields P #[f0, f1, f2] = true) (hC : P.cellsOf e = 3) (h0 : f0.type = ft) (h1 : f1.type = ft) (h2 : f2.type = ft) (hi : P.underlying ft = some (.int .i64))
    {fuel : Nat} {c : Value} {r : DataW H × List MemPlace} (h : DataW.trod enc P w base spare held fuel t [c] = some r) (hz : ∀ b off, MemPlace.cell b off ∈ r.2 → w.frozen? ⟨b, off, none⟩ = false) : ∃ d, ArgE w base w.heap.size c d := by
  obtain ⟨A, n, k, l, e1, e2, e3, _⟩ := open_flatQ (w := w) (base := base) (spare := spare) (held := held) ev (fun _ => True) ht hC (by omega) (fun fuel cs y hy hl _ => by
    obtain ⟨m0, c0, y0, g0, t0, _⟩ := field1 he hone hC hy 0 _ rfl
    obtain ⟨m1, c1, y1, g1, t1, _⟩ := field1 he hone hC hy 1 _ rfl
    obtain ⟨m2, c2, y2, g2, t2, _⟩ := field1 he hone hC hy 2 _ rfl
    change DataW.trod enc P w base spare held _ f0.type _ = _ at t0
    change DataW.trod enc P w base spare held _ f1.type _ = _ at t1
    change DataW.trod enc P w base spare held _ f2.type _ = _ at t2
    rw [h0] at t0
    rw [h1] at t1
    rw [h2] at t2
    obtain ⟨a0, ea0, _, _⟩ := DataW.trod_int hi t0
    obtain ⟨a1, ea1, _, _⟩ := DataW.trod_int hi t1
    obtain ⟨a2, ea2, _, _⟩ := DataW.trod_int hi t2
    match cs, hl with
    | [k0, k1, k2], _ =>
      simp at g0 g1 g2 ea0 ea1 ea2
      subst g0 g1 g2 ea0 ea1 ea2
      exact ⟨(a0, a1, a2), rfl, trivial⟩) h hz
  simp at e1
  exact ⟨l, A, n, k, e1, e2, e3⟩
end

set_option maxRecDepth 100000 in
/-- Four cells that read as a system. -/
theorem read_L {H : Type} {enc : TypeId × Value → H} {w : World} {base : Nat} {spare : Nat → Bool} {held : Bool} {fuel : Nat} {k0 k1 k2 k3 : Value} {r : DataW H × List MemPlace}
    (h : DataW.trod enc Tryz.prog w base spare held fuel 25 [k0, k1, k2, k3] = some r) (hz : ∀ b off, MemPlace.cell b off ∈ r.2 → w.frozen? ⟨b, off, none⟩ = false) :
    ∃ (x : CL) (d : DL), [k0, k1, k2, k3] = [.int .i64 x.1, .int .i64 x.2.1, x.2.2.1, x.2.2.2] ∧ ReadL w base w.heap.size x d := by
  obtain ⟨m0, c0, y0, g0, t0, p0⟩ := field1 Tryz.underlying25 (by kernel_rfl) (by kernel_rfl) h 0 _ rfl
  obtain ⟨m1, c1, y1, g1, t1, p1⟩ := field1 Tryz.underlying25 (by kernel_rfl) (by kernel_rfl) h 1 _ rfl
  obtain ⟨m2, c2, y2, g2, t2, p2⟩ := field1 Tryz.underlying25 (by kernel_rfl) (by kernel_rfl) h 2 _ rfl
  obtain ⟨m3, c3, y3, g3, t3, p3⟩ := field1 Tryz.underlying25 (by kernel_rfl) (by kernel_rfl) h 3 _ rfl
  obtain ⟨a0, ea0, _, _⟩ := DataW.trod_int Tryz.underlying2 t0
  obtain ⟨a1, ea1, _, _⟩ := DataW.trod_int Tryz.underlying2 t1
  obtain ⟨d2, r2⟩ := read_S Tryz.underlying22 (by kernel_rfl) Tryz.underlying9 t2 (fun b off hp => hz b off (p2 _ hp))
  obtain ⟨d3, r3⟩ := read_E Tryz.underlying23 Tryz.underlying105 (by kernel_rfl) (by kernel_rfl) rfl rfl rfl Tryz.underlying2 t3 (fun b off hp => hz b off (p3 _ hp))
  simp at g0 g1 g2 g3 ea0 ea1
  subst g0 g1 g2 g3 ea0 ea1
  exact ⟨(a0, a1, k2, k3), (a0, a1, d2, d3), rfl, rfl, rfl, r2, r3⟩

set_option maxRecDepth 100000 in
theorem open_M {H : Type} {enc : TypeId × Value → H} {w : World} {base wbase : Nat} {spare : Nat → Bool} {held : Bool} {v : Value} {d : DataW H} {p : List MemPlace} {w0 : World} {r0 : Reach} (hw : Value.okWide Tryz.prog w0 r0 wbase 39 v)
    (h : DataW.Trod enc Tryz.prog w base spare held 39 v d p) (hz : ∀ b off, MemPlace.cell b off ∈ p → w.frozen? ⟨b, off, none⟩ = false) : ∃ x, ArgM w base w.heap.size v x := by
  obtain ⟨cs, rfl, hsz⟩ := okWide_struct Tryz.underlying39 hw
  obtain ⟨fuel, hf⟩ := h
  have hsz5 : cs.size = 5 := hsz
  have hf' : DataW.trod enc Tryz.prog w base spare held fuel 39 cs.toList = some (d, p) := hf
  obtain ⟨cs⟩ := cs
  match cs, hsz5 with
  | [k0, k1, k2, k3, k4], _ =>
    obtain ⟨m0, y0, t0, p0⟩ := fieldN Tryz.underlying39 hf' 0 _ rfl
    obtain ⟨m1, y1, t1, p1⟩ := fieldN Tryz.underlying39 hf' 1 _ rfl
    have e0 : (([k0, k1, k2, k3, k4] : List Value).drop 0).take (Tryz.prog.cellsOf 25) = [k0, k1, k2, k3] := by rw [show Tryz.prog.cellsOf 25 = 4 by kernel_rfl]; rfl
    have e1 : (([k0, k1, k2, k3, k4] : List Value).drop 4).take (Tryz.prog.cellsOf 37) = [k4] := by rw [show Tryz.prog.cellsOf 37 = 1 by kernel_rfl]; rfl
    have t0' : DataW.trod enc Tryz.prog w base spare held m0 25 [k0, k1, k2, k3] = some y0 := by rw [← e0]; exact t0
    have t1' : DataW.trod enc Tryz.prog w base spare held m1 37 [k4] = some y1 := by rw [← e1]; exact t1
    obtain ⟨x, d0, ex, r0⟩ := read_L t0' (fun b off hp => hz b off (p0 _ hp))
    obtain ⟨d1, r1⟩ := read_I Tryz.underlying37 (by kernel_rfl) Tryz.underlying2 t1' (fun b off hp => hz b off (p1 _ hp))
    injection ex with ex0 ex
    injection ex with ex1 ex
    injection ex with ex2 ex
    injection ex with ex3 ex
    subst ex0 ex1 ex2 ex3
    exact ⟨(d0, d1), x, k4, rfl, r0, r1⟩

end Go.Proofs.YthlaoedpjloloaaGreatDoor

namespace Go.Proofs.YthlaoedpjloloaaGreatDoor
open Go.ChangeShapes Go.WideShapes Go.ChangeAt Go.RowKit Go.Deep
set_option linter.unusedVariables false

abbrev DSS := List ByteArray
def ArgSS (w : World) (lo hi : Nat) (v : Value) (d : DSS) : Prop := ArgS w lo hi v d
def totSS (d : DSS) : Nat := totS d
def FreshSS (w : World) (lo hi : Nat) (v : Value) (d : DSS) : Prop := ArgS w lo hi v d ∧ totS d ≤ 1048576
def ResS (w : World) (lo hi : Nat) (v : Value) (d : DSS) : Prop := ArgS w lo hi v d ∧ d.length ≤ 1048576
section
variable {w w' : World} {lo hi lo' hi' B : Nat} {v u : Value} {d e : DSS}
theorem ArgSS.below (h : ArgSS w lo hi v d) (hb : Below B w w') (hB : hi ≤ B ∨ w.heap.size ≤ B) : ArgSS w' lo hi v d := ArgS.below h hb hB
theorem ArgSS.only (h : ArgSS w lo hi v d) (g : Only lo' hi' w w') (hd : hi ≤ lo' ∨ hi' ≤ lo) : ArgSS w' lo hi v d := ArgS.only h g hd
theorem FreshSS.below (h : FreshSS w lo hi v d) (hb : Below B w w') (hB : hi ≤ B ∨ w.heap.size ≤ B) : FreshSS w' lo hi v d := ⟨h.1.below hb hB, h.2⟩
theorem FreshSS.only (h : FreshSS w lo hi v d) (g : Only lo' hi' w w') (hd : hi ≤ lo' ∨ hi' ≤ lo) : FreshSS w' lo hi v d := ⟨h.1.only g hd, h.2⟩
theorem totS_length {l : List ByteArray} : l.length ≤ totS l := by unfold totS; omega
theorem szStringS_u {left : Int} (h : ArgSS w lo hi v d) (h0 : 0 ≤ left) (h1 : left ≤ 1048576) :
    Calls Tryz.prog 38 #[v, .int .i64 left] w fun e w' => e = .returned (.int .i64 (szLeft left (totSS d))) ∧ Below w.heap.size w w' := szStringS_b h h0 h1
theorem toStringS_u (h : ArgSS w lo hi v d) (ht : totSS d ≤ 1048576) :
    Calls Tryz.prog 43 #[v] w fun e w' => ∃ v', e = .returned v' ∧ FreshSS w' w.heap.size w'.heap.size v' d ∧ Below w.heap.size w w' := by
  refine (toStringS_a h (Nat.le_trans totS_length ht)).mono ?_
  rintro r w' ⟨v', rfl, h1, hb⟩
  exact ⟨v', rfl, ⟨h1, ht⟩, hb⟩
theorem eqStringSA_u (h : FreshSS w lo hi v d) (g : FreshSS w lo' hi' u e) :
    Calls Tryz.prog 22 #[v, u] w fun r w' => r = .returned (.bool (decide (d = e))) ∧ Below w.heap.size w w' :=
  eqStringS_a h.1 g.1 (Nat.le_trans totS_length h.2) (Nat.le_trans totS_length g.2)
theorem ResS.below (h : ResS w lo hi v d) (hb : Below B w w') (hB : hi ≤ B ∨ w.heap.size ≤ B) : ResS w' lo hi v d := ⟨h.1.below hb hB, h.2⟩
theorem ResS.only (h : ResS w lo hi v d) (g : Only lo' hi' w w') (hd : hi ≤ lo' ∨ hi' ≤ lo) : ResS w' lo hi v d := ⟨h.1.only g hd, h.2⟩
theorem eqStringS_u (h : ResS w lo hi v d) (g : ResS w lo' hi' u e) :
    Calls Tryz.prog 22 #[v, u] w fun r w' => r = .returned (.bool (decide (d = e))) ∧ Below w.heap.size w w' := eqStringS_a h.1 g.1 h.2 g.2
end
set_option maxRecDepth 100000 in
theorem open_SS {H : Type} {enc : TypeId × Value → H} {w : World} {base wbase : Nat} {spare : Nat → Bool} {held : Bool} {v : Value} {d : DataW H} {p : List MemPlace} {w0 : World} {r0 : Reach} (hw : Value.okWide Tryz.prog w0 r0 wbase 22 v)
    (h : DataW.Trod enc Tryz.prog w base spare held 22 v d p) (hz : ∀ b off, MemPlace.cell b off ∈ p → w.frozen? ⟨b, off, none⟩ = false) : ∃ x, ArgSS w base w.heap.size v x := by
  obtain ⟨A, n, c, rfl⟩ := okWide_slice Tryz.underlying22 hw
  obtain ⟨fuel, hf⟩ := h
  have hf' : DataW.trod enc Tryz.prog w base spare held fuel 22 [.slice A n c] = some (d, p) := hf
  exact read_S Tryz.underlying22 (by kernel_rfl) Tryz.underlying9 hf' hz

end Go.Proofs.YthlaoedpjloloaaGreatDoor
