/-
  Small functions around strategies: equality of lists, the test of a move, the moves that a test leaves. Conditions: at most 1048576 elements.
-/
import Derived.Test.YtbnneahjjcamlaaDet4
import Derived.Test.YtbnneahjjcamlaaWinI
namespace Go.Proofs.Ytbnneahjjcamlaa
open Go.ChangeShapes Go.WideShapes Go.ChangeAt Go.RowKit
set_option linter.unusedVariables false

set_option maxRecDepth 100000 in
theorem l00Same_calls (A B : Option Addr) (n m c d : Nat) (l r : List Int) (w : World) (lo hi lo' hi' : Nat) (h : SlI w lo hi A n l) (g : SlI w lo' hi' B m r) (hn : n ≤ 1048576) (hm : m ≤ 1048576) :
    Calls Try.prog 101 #[.slice A n c, .slice B m d] w fun e w' => e = .returned (.bool (decide (l = r))) ∧ Below w.heap.size w w' := by
  have hl := hide h.len
  have hr := hide g.len
  by_cases hnm : n = m
  · subst hnm
    replace h := hide h
    replace g := hide g
    go_enter Try.func101, Try.ntmps101
    go_wp2
    go_loopw [5] (fun i wr => ∃ k : Nat, k ≤ n ∧ i = .int .i64 k ∧ Below w.heap.size w wr ∧ l.take k = r.take k) (fun i _ => n - (intOf i).toNat)
    case atStart => exact ⟨0, Nat.zero_le _, rfl, (Below.refl _ _), rfl⟩
    case round =>
      obtain ⟨k, hk, rfl, hb, he⟩ := hrel
      replace he := hide he
      by_cases hlt : k < n
      · obtain ⟨b, off, x, rfl, g1, g2, g3, hx, c0, -⟩ := h.out.get hlt
        obtain ⟨b', off', y, rfl, g1', g2', g3', hy, d0, -⟩ := g.out.get hlt
        replace c0 := (hb.cell (p := ⟨b, off + k, none⟩) g3).trans c0
        replace d0 := (hb.cell (p := ⟨b', off' + k, none⟩) g3').trans d0
        replace hx := hide hx
        replace hy := hide hy
        clear h g
        have hk0 : (0 : Int) ≤ (k : Int) := by omega
        have hk1 : (k : Int) < (n : Int) := by omega
        by_cases hxy : x = y
        · subst hxy
          have hq : (x != x) = false := by simp
          go_wp2
          go_quiet (fail)
          go_wp2
          go_roundw
          case rel => exact ⟨k + 1, by omega, by go_num, by first | exact hb | exact ⟨hb.os, hb.tape, hb.output, hb.size, hb.block⟩, take_step he.out hx.out hy.out rfl⟩
          case measure => simp [intOf]; omega
        · have hne := hide (take_stop hx.out hy.out hxy)
          have hq : (x != y) = true := by rw [bne_iff_ne]; exact hxy
          go_wp2
          go_quiet (fail)
          go_wp2
          go_ret
          exact ⟨by simp [hne.out], by first | exact hb | exact ⟨hb.os, hb.tape, hb.output, hb.size, hb.block⟩⟩
      · have hkn : k = n := by omega
        subst hkn
        clear h g
        go_wp2
        go_ret
        exact ⟨by rw [take_all he.out hl.out hr.out]; simp, hb⟩
  · have hne : Hid (l ≠ r) := fun e => hnm (by rw [← hl.out, ← hr.out, e])
    have hb0 : ((n : Int) != (m : Int)) = true := by rw [bne_iff_ne]; omega
    clear h g
    go_enter Try.func101, Try.ntmps101
    go_wp2
    go_ret
    exact ⟨by simp [hne.out], Below.refl _ _⟩

set_option maxRecDepth 100000 in
theorem equalI_calls (A B : Option Addr) (n m c d : Nat) (l r : List Int) (w : World) (lo hi lo' hi' : Nat) (h : SlI w lo hi A n l) (g : SlI w lo' hi' B m r) (hn : n ≤ 1048576) (hm : m ≤ 1048576) :
    Calls Try.prog 106 #[.slice A n c, .slice B m d] w fun e w' => e = .returned (.bool (decide (l = r))) ∧ Below w.heap.size w w' := by
  have hl := hide h.len
  have hr := hide g.len
  by_cases hnm : n = m
  · subst hnm
    replace h := hide h
    replace g := hide g
    go_enter Try.func106, Try.ntmps106
    go_wp2
    go_loopw [13] (fun i wr => ∃ k : Nat, k ≤ n ∧ i = .int .i64 k ∧ Below w.heap.size w wr ∧ l.take k = r.take k) (fun i _ => n - (intOf i).toNat)
    case atStart => exact ⟨0, Nat.zero_le _, rfl, (Below.refl _ _), rfl⟩
    case round =>
      obtain ⟨k, hk, rfl, hb, he⟩ := hrel
      replace he := hide he
      by_cases hlt : k < n
      · obtain ⟨b, off, x, rfl, g1, g2, g3, hx, c0, -⟩ := h.out.get hlt
        obtain ⟨b', off', y, rfl, g1', g2', g3', hy, d0, -⟩ := g.out.get hlt
        replace c0 := (hb.cell (p := ⟨b, off + k, none⟩) g3).trans c0
        replace d0 := (hb.cell (p := ⟨b', off' + k, none⟩) g3').trans d0
        replace hx := hide hx
        replace hy := hide hy
        clear h g
        have hk0 : (0 : Int) ≤ (k : Int) := by omega
        have hk1 : (k : Int) < (n : Int) := by omega
        by_cases hxy : x = y
        · subst hxy
          have hq : (x != x) = false := by simp
          go_wp2
          go_quiet (fail)
          go_wp2
          go_roundw
          case rel => exact ⟨k + 1, by omega, by go_num, by first | exact hb | exact ⟨hb.os, hb.tape, hb.output, hb.size, hb.block⟩, take_step he.out hx.out hy.out rfl⟩
          case measure => simp [intOf]; omega
        · have hne := hide (take_stop hx.out hy.out hxy)
          have hq : (x != y) = true := by rw [bne_iff_ne]; exact hxy
          go_wp2
          go_quiet (fail)
          go_wp2
          go_ret
          exact ⟨by simp [hne.out], by first | exact hb | exact ⟨hb.os, hb.tape, hb.output, hb.size, hb.block⟩⟩
      · have hkn : k = n := by omega
        subst hkn
        clear h g
        go_wp2
        go_ret
        exact ⟨by rw [take_all he.out hl.out hr.out]; simp, hb⟩
  · have hne : Hid (l ≠ r) := fun e => hnm (by rw [← hl.out, ← hr.out, e])
    have hb0 : ((n : Int) != (m : Int)) = true := by rw [bne_iff_ne]; omega
    clear h g
    go_enter Try.func106, Try.ntmps106
    go_wp2
    go_ret
    exact ⟨by simp [hne.out], Below.refl _ _⟩

theorem Own.block_ne {w : World} {lo hi n b o : Nat} {l : List Int} (h : SlI w lo hi (some ⟨b, o, none⟩) n l) (hn : 0 < n) : lo ≤ b ∧ b < w.heap.size := by
  obtain ⟨b', o', e, h1, h2, h3, -⟩ := h.at_ hn
  cases e
  exact ⟨h1, h3⟩

set_option maxRecDepth 100000 in
theorem strategy1_calls (x : Int) (bw bv : Nat) (Aw : Option Addr) (n cw : Nat) (W : List Int) (o p : Int) (Ah : Option Addr) (nh ch : Nat) (w : World) (hx : 0 ≤ x ∧ x < n) (hs : SlI w 0 w.heap.size Aw n W)
    (k0 : w.cell? ⟨bw, 0, none⟩ = some (.slice Aw n cw)) (k1 : w.cell? ⟨bv, 0, none⟩ = some (.int .i64 o)) :
    Calls Try.prog 105 #[.int .i64 x, .pointer (some ⟨bw, 0, none⟩), .pointer (some ⟨bv, 0, none⟩)] w (Says (!decide ((W[x.toNat]?.getD 0) = o)) w) := by
  obtain ⟨b, off, y, rfl, g1, g2, g3, hy, c0, -⟩ := hs.get (show x.toNat < n by omega)
  have hval : Hid ((!decide ((W[x.toNat]?.getD 0) = o)) = (y != o)) := by show _ = _; rw [hy]; show (!decide (y = o)) = (y != o); by_cases e : y = o <;> simp [e]
  obtain ⟨hx0, hx1⟩ := hx
  clear hs hy
  go_enter Try.func105, Try.ntmps105
  go_wp2
  go_quiet (fail)
  go_wp2
  go_ret
  exact ⟨ret_b (by rw [hval.out]), below_drewN _ _⟩

end Go.Proofs.Ytbnneahjjcamlaa
