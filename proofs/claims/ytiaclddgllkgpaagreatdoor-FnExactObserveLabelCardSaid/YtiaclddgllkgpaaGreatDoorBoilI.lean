/-
  The laws' helpers on lists of int64: copying, comparing, marking, asking for the marks. Conditions: at most 1048576 numbers.
-/
import Derived.Test.YtiaclddgllkgpaaGreatDoorRows
import Derived.Test.YtiaclddgllkgpaaGreatDoorWords
import Derived.LoopTactic
import Derived.Deep.QuietTactic
import Derived.BigQuiet
namespace Go.Proofs.YtiaclddgllkgpaaGreatDoor
open Go.ChangeShapes Go.WideShapes Go.ChangeAt Go.RowKit
set_option linter.unusedVariables false

theorem info_int64 : (Tryz.prog.info? 2).map (fun i => (i.zero, i.size, i.bytes)) = some (some (.int .i64 0), 1, 8) := by kernel_rfl

theorem toInt64S_calls (A : Option Addr) (n c : Nat) (l : List Int) (w : World) (lo hi : Nat) (h : SlI w lo hi A n l) (hn : n ≤ 1048576) :
    Calls Tryz.prog 58 #[.slice A n c] w fun e w' => ∃ A', e = .returned (.slice A' n n) ∧ Below w.heap.size w w' ∧ SlI w' w.heap.size w'.heap.size A' n l := by
  obtain ⟨i0, hi0, hz0, hz1, hz2⟩ := info_parts info_int64
  have hmk := fun W => make_row (P := Tryz.prog) 26 2 i0 _ _ n Tryz.underlying26 hi0 hz0 hz1 (by rw [hz2]; omega) (by omega) W
  clear hi0 hz0 hz1 hz2
  have hlen := hide h.len
  go_enter Tryz.func58, Tryz.ntmps58
  go_wp2
  go_loopw [4] (fun i wr => ∃ k : Nat, k ≤ n ∧ i = .int .i64 k ∧ Below w.heap.size w wr ∧ Fill 1 iv wr w.heap.size 2 n k l) (fun i _ => n - (intOf i).toNat)
  case atStart => exact ⟨0, Nat.zero_le _, rfl, (Below.refl _ _).alloc (Nat.le_refl _) _, Fill.start _ _ _ _ (by simp [madeCells])⟩
  case round =>
    obtain ⟨k, hk, rfl, hb, hf⟩ := hrel
    clear hmk
    by_cases hlt : k < n
    · obtain ⟨b, off, x, rfl, g1, g2, g3, hx, c0, -⟩ := h.get hlt
      replace c0 := (hb.cell (p := ⟨b, off + k, none⟩) g3).trans c0
      obtain ⟨v0, d0⟩ := hf.cell (i := k) (by omega)
      have z0 := hf.frozen k
      replace hx := hide hx
      clear h
      go_wp2
      go_roundw
      case rel => exact ⟨k + 1, by omega, by go_num, hb.setCell (Nat.le_refl _) _, hf.set1 hlt (fun _ => rfl) hx.out rfl⟩
      case measure => simp [intOf]; omega
    · have : k = n := by omega
      subst this
      go_wp2
      go_ret
      exact ⟨_, rfl, hb, hf.done hlen.out (Nat.le_refl _) hf.lt⟩

set_option maxRecDepth 100000 in
theorem eqInt64S_calls (A B : Option Addr) (n m c d : Nat) (l r : List Int) (w : World) (lo hi lo' hi' : Nat) (h : SlI w lo hi A n l) (g : SlI w lo' hi' B m r) (hn : n ≤ maxLen) (hm : m ≤ maxLen) :
    Calls Tryz.prog 26 #[.slice A n c, .slice B m d] w fun e w' => e = .returned (.bool (decide (l = r))) ∧ Below w.heap.size w w' := by
  unfold maxLen at hn hm
  have hl := hide h.len
  have hr := hide g.len
  by_cases hnm : n = m
  · subst hnm
    go_enter Tryz.func26, Tryz.ntmps26
    go_wp2
    go_loopw [5] (fun i wr => ∃ k : Nat, k ≤ n ∧ i = .int .i64 k ∧ Below w.heap.size w wr ∧ l.take k = r.take k) (fun i _ => n - (intOf i).toNat)
    case atStart => exact ⟨0, Nat.zero_le _, rfl, (Below.refl _ _), rfl⟩
    case round =>
      obtain ⟨k, hk, rfl, hb, he⟩ := hrel
      replace he := hide he
      by_cases hlt : k < n
      · obtain ⟨b, off, x, rfl, g1, g2, g3, hx, c0, -⟩ := h.get hlt
        obtain ⟨b', off', y, rfl, g1', g2', g3', hy, d0, -⟩ := g.get hlt
        replace c0 := (hb.cell (p := ⟨b, off + k, none⟩) g3).trans c0
        replace d0 := (hb.cell (p := ⟨b', off' + k, none⟩) g3').trans d0
        replace hx := hide hx
        replace hy := hide hy
        clear h g
        have hk0 : (0 : Int) ≤ (k : Int) := by omega
        have hk1 : (k : Int) < (n : Int) := by omega
        by_cases hxy : x = y
        · subst hxy
          go_wp2
          go_quiet (fail)
          go_wp2
          go_roundw
          case rel => exact ⟨k + 1, by omega, by go_num, by first | exact hb | exact ⟨hb.os, hb.tape, hb.output, hb.size, hb.block⟩, take_step he.out hx.out hy.out rfl⟩
          case measure => simp [intOf]; omega
        · have hne := hide (take_stop hx.out hy.out hxy)
          have hq : (x != y) = true := by simpa using hxy
          clear hxy
          go_wp2
          go_quiet (fail)
          go_wp2
          go_ret
          exact ⟨by simp [hne.out], by first | exact hb | exact ⟨hb.os, hb.tape, hb.output, hb.size, hb.block⟩⟩
      · have hkn : k = n := by omega
        subst hkn
        go_wp2
        go_ret
        exact ⟨by rw [take_all he.out hl.out hr.out]; simp, hb⟩
  · have hne : Hid (l ≠ r) := fun e => hnm (by rw [← hl.out, ← hr.out, e])
    have hb0 : ((n : Int) != (m : Int)) = true := by rw [bne_iff_ne]; omega
    go_enter Tryz.func26, Tryz.ntmps26
    go_wp2
    go_ret
    exact ⟨by simp [hne.out], Below.refl _ _⟩

theorem markInt64S_calls (A : Option Addr) (n c : Nat) (l : List Int) (m : Int) (w : World) (lo hi : Nat) (h : SlI w lo hi A n l) (hn : n ≤ 1048576) (h0 : 0 ≤ m) (h1 : m ≤ 1099511627776) :
    Calls Tryz.prog 28 #[.slice A n c, .int .i64 m] w fun e w' => e = .returned (.int .i64 (m + n)) ∧ SlI w' lo hi A n (markI m n l) ∧ Only lo hi w w' := by
  go_enter Tryz.func28, Tryz.ntmps28
  go_wp2
  go_loopw [1, 5] (fun s i wr => ∃ k : Nat, k ≤ n ∧ i = .int .i64 k ∧ s = .int .i64 (m + k) ∧ SlI wr lo hi A n (markI m k l) ∧ Only lo hi w wr) (fun _ i _ => n - (intOf i).toNat)
  case atStart => exact ⟨0, Nat.zero_le _, rfl, by go_num, h, Only.refl _ _ _⟩
  case round =>
    obtain ⟨k, hk, rfl, rfl, hs, ho⟩ := hrel
    clear h
    by_cases hlt : k < n
    · obtain ⟨b, off, x, rfl, g1, g2, g3, hx, c0, z0⟩ := hs.get hlt
      have hnext := hide (hs.put hlt (m + k))
      have hsz := ho.size
      clear hs hx
      go_wp2
      go_roundw
      case rel => exact ⟨k + 1, by omega, by go_num, by go_num, hnext.out, ho.setCell g1 g2 _⟩
      case measure => simp [intOf]; omega
    · have hkn : k = n := by omega
      subst hkn
      go_wp2
      go_ret
      exact ⟨rfl, hs, ho⟩

theorem heldInt64S_calls (A : Option Addr) (n c : Nat) (l : List Int) (m : Int) (w : World) (lo hi : Nat) (h : SlI w lo hi A n l) (hn : n ≤ 1048576) (h0 : 0 ≤ m) (h1 : m ≤ 1099511627776)
    (hl : ∀ i, i < n → l[i]? = some (m + (i : Int))) :
    Calls Tryz.prog 29 #[.slice A n c, .int .i64 m] w fun e w' => e = .returned (.int .i64 (m + n)) ∧ w = w' := by
  replace hl := hide hl
  go_enter Tryz.func29, Tryz.ntmps29
  go_wp2
  go_loop [1, 5] (fun s i => ∃ k : Nat, k ≤ n ∧ i = .int .i64 k ∧ s = .int .i64 (m + k)) (fun _ i => n - (intOf i).toNat)
  case atStart => exact ⟨0, Nat.zero_le _, rfl, by go_num⟩
  case round =>
    obtain ⟨k, hk, rfl, rfl⟩ := hrel
    by_cases hlt : k < n
    · obtain ⟨b, off, x, rfl, g1, g2, g3, hx, c0, z0⟩ := h.get hlt
      rw [hl.out k hlt] at hx
      injection hx with hx
      subst hx
      clear h
      go_wp2
      go_round
      case rel => exact ⟨k + 1, by omega, by go_num, by go_num⟩
      case measure => simp [intOf]; omega
    · have hkn : k = n := by omega
      subst hkn
      go_wp2
      go_ret
      exact ⟨rfl, rfl⟩

end Go.Proofs.YtiaclddgllkgpaaGreatDoor
