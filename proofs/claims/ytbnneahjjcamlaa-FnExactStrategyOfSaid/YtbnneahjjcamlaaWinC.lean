/-
  The function values that the program's win hands to marked. Conditions: valid games.
-/
import Derived.Test.YtbnneahjjcamlaaAttrI
import Derived.Test.YtbnneahjjcamlaaNewA2
namespace Go.Proofs.Ytbnneahjjcamlaa
open Go.ChangeShapes Go.WideShapes Go.ChangeAt Go.RowKit
set_option linter.unusedVariables false

/-- A boxed variable. -/
def Box (W : World) (b : Nat) (v : Value) : Prop := W.cell? ⟨b, 0, none⟩ = some v ∧ b < W.heap.size
theorem Box.below {W W' : World} {b : Nat} {v : Value} {B : Nat} (h : Box W b v) (hb : Below B W W') (hB : W.heap.size ≤ B) : Box W' b v :=
  ⟨(hb.cell (p := ⟨b, 0, none⟩) (by have := h.2; show b < B; omega)).trans h.1, Nat.lt_of_lt_of_le h.2 hb.size⟩
theorem Box.made (W : World) (v : Value) (t : TypeId) : Box (W.alloc (.cells #[v] t)) W.heap.size v :=
  ⟨(cell_of_row _ _ 0 _ _ (0, 0) (heap_alloc_new W _)).trans rfl, by simp⟩

theorem win1_calls (b bX bL : Nat) (g : DV) (alive : List Bool) (least : Int) (k : Nat) (W : World) (h : ArenaAt W b g alive) (ok : GameOk g) (hk : k < g.length) (hX : Box W bX (.pointer (some ⟨b, 0, none⟩))) (hL : Box W bL (.int .i64 least)) :
    Calls Try.prog 129 #[.int .i64 (k : Int), .pointer (some ⟨bX, 0, none⟩), .pointer (some ⟨bL, 0, none⟩)] W fun e W' => e = .returned (.bool (decide (gPri g k = least))) ∧ ∃ N, W' = W.drewN N := by
  obtain ⟨b1, o1, cg, b2, o2, cb, b3, o3, ci, Q, c0, c1, c2, hg, -, -, -, -, hn0, hn1⟩ := h.open_ ok
  obtain ⟨o, p, l, Ah, nh, ch, hx, d0, d1, d2, -, -, -, -, -⟩ := hg.cell ok hk
  have hp := hide (gPri_at hx)
  have x0 := hX.1
  have l0 := hL.1
  have hk0 : (0 : Int) ≤ (k : Int) := by omega
  have hk1 : (k : Int) < (g.length : Int) := by omega
  clear h ok hg hX hL hx c1 c2 d0 d2
  generalize g.length = n at *
  by_cases z : p = least
  · have hv : Hid (decide (gPri g k = least) = true) := decide_eq_true (by rw [hp.out]; exact z)
    have e1 : (p == least) = true := by simpa using z
    clear z
    go_enter Try.func129, Try.ntmps129
    go_wp2
    go_quiet (fail)
    go_wp2
    go_ret
    exact ⟨ret_b (by rw [hv.out]), _, rfl⟩
  · have hv : Hid (decide (gPri g k = least) = false) := decide_eq_false (by rw [hp.out]; exact z)
    have e1 : (p == least) = false := by simpa using z
    clear z
    go_enter Try.func129, Try.ntmps129
    go_wp2
    go_quiet (fail)
    go_wp2
    go_ret
    exact ⟨ret_b (by rw [hv.out]), _, rfl⟩

theorem win2_calls (bW bP : Nat) (n : Nat) (A : Option Addr) (c : Nat) (won : List Bool) (player : Int) (k : Nat) (W : World) (hk : k < n) (hs : SetAt W A n won) (hW : Box W bW (.slice A n c)) (hP : Box W bP (.int .i64 player)) :
    Calls Try.prog 130 #[.int .i64 (k : Int), .pointer (some ⟨bW, 0, none⟩), .pointer (some ⟨bP, 0, none⟩)] W fun e W' => e = .returned (.bool (inS won k != decide (player = 1))) ∧ ∃ N, W' = W.drewN N := by
  obtain ⟨b1, o1, rfl, -⟩ := hs.addr (by omega)
  have s0 := hs.cell hk
  have x0 := hW.1
  have p0 := hP.1
  have hk0 : (0 : Int) ≤ (k : Int) := by omega
  have hk1 : (k : Int) < (n : Int) := by omega
  clear hs hW hP
  generalize inS won k = sv at *
  by_cases z : player = 1
  · have hv : Hid (decide (player = 1) = true) := decide_eq_true z
    have e1 : (player == 1) = true := by simpa using z
    clear z
    cases sv
    all_goals
      go_enter Try.func130, Try.ntmps130
      go_wp2
      go_quiet (fail)
      go_wp2
      go_ret
      exact ⟨ret_b (by rw [hv.out]; rfl), _, rfl⟩
  · have hv : Hid (decide (player = 1) = false) := decide_eq_false z
    have e1 : (player == 1) = false := by simpa using z
    clear z
    cases sv
    all_goals
      go_enter Try.func130, Try.ntmps130
      go_wp2
      go_quiet (fail)
      go_wp2
      go_ret
      exact ⟨ret_b (by rw [hv.out]; rfl), _, rfl⟩

theorem win3_calls (bP : Nat) (player : Int) (k : Nat) (W : World) (hP : Box W bP (.int .i64 player)) :
    Calls Try.prog 132 #[.int .i64 (k : Int), .pointer (some ⟨bP, 0, none⟩)] W fun e W' => e = .returned (.bool (decide (player = 1))) ∧ ∃ N, W' = W.drewN N := by
  have p0 := hP.1
  clear hP
  by_cases z : player = 1
  · have hv : Hid (decide (player = 1) = true) := decide_eq_true z
    have e1 : (player == 1) = true := by simpa using z
    clear z
    go_enter Try.func132, Try.ntmps132
    go_wp2
    go_ret
    exact ⟨ret_b (by rw [hv.out]), 0, rfl⟩
  · have hv : Hid (decide (player = 1) = false) := decide_eq_false z
    have e1 : (player == 1) = false := by simpa using z
    clear z
    go_enter Try.func132, Try.ntmps132
    go_wp2
    go_ret
    exact ⟨ret_b (by rw [hv.out]), 0, rfl⟩

theorem win4_calls (bO bP bW : Nat) (n : Nat) (A C : Option Addr) (c d : Nat) (lost won : List Bool) (player : Int) (k : Nat) (W : World) (hk : k < n) (hl : SetAt W A n lost) (hs : SetAt W C n won) (hO : Box W bO (.slice A n c)) (hP : Box W bP (.int .i64 player)) (hW : Box W bW (.slice C n d)) :
    Calls Try.prog 133 #[.int .i64 (k : Int), .pointer (some ⟨bO, 0, none⟩), .pointer (some ⟨bP, 0, none⟩), .pointer (some ⟨bW, 0, none⟩)] W fun e W' => e = .returned (.bool ((inS lost k && decide (player = 0)) || (!inS lost k && inS won k))) ∧ ∃ N, W' = W.drewN N := by
  obtain ⟨b1, o1, rfl, -⟩ := hl.addr (by omega)
  obtain ⟨b2, o2, rfl, -⟩ := hs.addr (by omega)
  have s0 := hl.cell hk
  have t0 := hs.cell hk
  have x0 := hO.1
  have p0 := hP.1
  have w0 := hW.1
  have hk0 : (0 : Int) ≤ (k : Int) := by omega
  have hk1 : (k : Int) < (n : Int) := by omega
  clear hs hl hO hW hP
  generalize inS lost k = lv at *
  generalize inS won k = wv at *
  by_cases z : player = 0
  · have hv : Hid (decide (player = 0) = true) := decide_eq_true z
    have e1 : (player == 0) = true := by simpa using z
    clear z
    cases lv <;> cases wv
    all_goals
      go_enter Try.func133, Try.ntmps133
      go_wp2
      go_ret
      exact ⟨ret_b (by rw [hv.out]; rfl), 0, rfl⟩
  · have hv : Hid (decide (player = 0) = false) := decide_eq_false z
    have e1 : (player == 0) = false := by simpa using z
    clear z
    cases lv <;> cases wv
    all_goals
      go_enter Try.func133, Try.ntmps133
      go_wp2
      go_ret
      exact ⟨ret_b (by rw [hv.out]; rfl), 0, rfl⟩

theorem winners11_calls (bG bO : Nat) (A : Option Addr) (g : DV) (cg : Nat) (owner : Int) (k : Nat) (W : World) (hg : GameAt W A g.length g) (ok : GameOk g) (hk : k < g.length) (hG : Box W bG (.slice A g.length cg)) (hO : Box W bO (.int .i64 owner)) :
    Calls Try.prog 94 #[.int .i64 (k : Int), .pointer (some ⟨bG, 0, none⟩), .pointer (some ⟨bO, 0, none⟩)] W fun e W' => e = .returned (.bool (decide (gOwn g k = owner) && (gNxt g k).isEmpty)) ∧ ∃ N, W' = W.drewN N := by
  obtain ⟨b1, o1, rfl, -⟩ := hg.addr (by omega)
  obtain ⟨o, p, l, Ah, nh, ch, hx, d0, d1, d2, hl, -, -, -, -⟩ := hg.cell ok hk
  have ho := hide (gOwn_at hx)
  have hll : (gNxt g k).isEmpty = decide (nh = 0) := by
    have := hl.len
    rw [gNxt_at hx]
    cases l <;> simp at this ⊢ <;> omega
  replace hll := hide hll
  have x0 := hG.1
  have p0 := hO.1
  have hk0 : (0 : Int) ≤ (k : Int) := by omega
  have hk1 : (k : Int) < (g.length : Int) := by omega
  clear hg hx hl ok hG hO
  generalize g.length = n at *
  by_cases z : o = owner
  · have hv : Hid (decide (gOwn g k = owner) = true) := decide_eq_true (by rw [ho.out]; exact z)
    have e1 : (o == owner) = true := by simpa using z
    clear z
    by_cases z2 : nh = 0
    · have hv2 : Hid (decide (nh = 0) = true) := decide_eq_true z2
      have e2 : ((nh : Int) == 0) = true := by simpa using z2
      clear z2
      go_enter Try.func94, Try.ntmps94
      go_wp2
      go_quiet (fail)
      go_wp2
      go_ret
      exact ⟨ret_b (by rw [hv.out, hll.out, hv2.out]; rfl), _, rfl⟩
    · have hv2 : Hid (decide (nh = 0) = false) := decide_eq_false z2
      have e2 : ((nh : Int) == 0) = false := by rw [beq_eq_false_iff_ne]; omega
      clear z2
      go_enter Try.func94, Try.ntmps94
      go_wp2
      go_quiet (fail)
      go_wp2
      go_ret
      exact ⟨ret_b (by rw [hv.out, hll.out, hv2.out]; rfl), _, rfl⟩
  · have hv : Hid (decide (gOwn g k = owner) = false) := decide_eq_false (by rw [ho.out]; exact z)
    have e1 : (o == owner) = false := by simpa using z
    clear z
    go_enter Try.func94, Try.ntmps94
    go_wp2
    go_quiet (fail)
    go_wp2
    go_ret
    exact ⟨ret_b (by rw [hv.out]; rfl), _, rfl⟩

end Go.Proofs.Ytbnneahjjcamlaa
