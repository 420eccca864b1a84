/-
  The laws' helpers on lists of bool, as results of a law. Conditions: at most 1048576 elements.
-/
import Derived.Test.YtbnneahjjcamlaaBools
import Derived.Deep.QuietTactic
import Derived.BigQuiet
namespace Go.Proofs.Ytbnneahjjcamlaa
open Go.ChangeShapes Go.WideShapes Go.ChangeAt Go.RowKit
set_option linter.unusedVariables false

set_option maxRecDepth 100000 in
theorem eqBoolS_calls (A B : Option Addr) (n m c d : Nat) (l r : List Bool) (w : World) (lo hi lo' hi' : Nat) (h : SlB w lo hi A n l) (g : SlB w lo' hi' B m r) (hn : n ≤ maxLen) (hm : m ≤ maxLen) :
    Calls Try.prog 23 #[.slice A n c, .slice B m d] w fun e w' => e = .returned (.bool (decide (l = r))) ∧ Below w.heap.size w w' := by
  unfold maxLen at hn hm
  have hl := hide h.len
  have hr := hide g.len
  by_cases hnm : n = m
  · subst hnm
    replace h := hide h
    replace g := hide g
    go_enter Try.func23, Try.ntmps23
    go_wp2
    go_loopw [5] (fun i wr => ∃ k : Nat, k ≤ n ∧ i = .int .i64 k ∧ Below w.heap.size w wr ∧ l.take k = r.take k) (fun i _ => n - (intOf i).toNat)
    case atStart => exact ⟨0, Nat.zero_le _, rfl, (Below.refl _ _), rfl⟩
    case round =>
      obtain ⟨k, hk, rfl, hb, he⟩ := hrel
      replace he := hide he
      by_cases hlt : k < n
      · obtain ⟨b, off, rfl, g1, g2, g3, hx, c0, -⟩ := SlB.get h.out hlt
        obtain ⟨b', off', rfl, g1', g2', g3', hy, d0, -⟩ := SlB.get g.out hlt
        replace c0 := (hb.cell (p := ⟨b, off + k, none⟩) g3).trans c0
        replace d0 := (hb.cell (p := ⟨b', off' + k, none⟩) g3').trans d0
        replace hx := hide hx
        replace hy := hide hy
        clear h g
        have hk0 : (0 : Int) ≤ (k : Int) := by omega
        have hk1 : (k : Int) < (n : Int) := by omega
        generalize inS l k = x at *
        generalize inS r k = y at *
        by_cases hxy : x = y
        · subst hxy
          have hq : (x != x) = false := by simp
          cases x
          all_goals
            go_wp2
            go_quiet (fail)
            go_wp2
            go_roundw
            case rel => exact ⟨k + 1, by omega, by go_num, by first | exact hb | exact ⟨hb.os, hb.tape, hb.output, hb.size, hb.block⟩, take_step he.out hx.out hy.out rfl⟩
            case measure => simp [intOf]; omega
        · have hne := hide (take_stop hx.out hy.out hxy)
          cases x <;> cases y
          all_goals first | (exact absurd rfl hxy) | skip
          all_goals clear hxy
          all_goals
            go_wp2
            go_quiet (fail)
            go_wp2
            go_ret
            exact ⟨by simp [hne.out], by first | exact hb | exact ⟨hb.os, hb.tape, hb.output, hb.size, hb.block⟩⟩
      · have hkn : k = n := by omega
        subst hkn
        clear h g
        go_wp2
        go_ret
        exact ⟨by rw [take_all he.out hl.out hr.out]; simp, hb⟩
  · have hne : Hid (l ≠ r) := fun e => hnm (by rw [← hl.out, ← hr.out, e])
    have hb0 : ((n : Int) != (m : Int)) = true := by rw [bne_iff_ne]; omega
    clear h g
    go_enter Try.func23, Try.ntmps23
    go_wp2
    go_ret
    exact ⟨by simp [hne.out], Below.refl _ _⟩

/-- The first k elements marked from m on. -/
def markB (m : Int) : Nat → List Bool → List Bool
  | 0, l => l
  | k + 1, l => (markB m k l).set k ((m + k) % 3 == 0)
theorem markB_len (m : Int) (k : Nat) (l : List Bool) : (markB m k l).length = l.length := by
  induction k with
  | zero => rfl
  | succ k ih => simp [markB, ih]
theorem markB_get (m : Int) (k : Nat) (l : List Bool) (i : Nat) (hi : i < k) (hl : i < l.length) : (markB m k l)[i]? = some ((m + i) % 3 == 0) := by
  induction k with
  | zero => omega
  | succ k ih =>
    by_cases h : i = k
    · subst h
      exact List.getElem?_set_self (by rw [markB_len]; exact hl)
    · rw [markB, List.getElem?_set_ne (by omega)]
      exact ih (by omega)

theorem markBoolS_calls (A : Option Addr) (n c : Nat) (l : List Bool) (m : Int) (w : World) (lo hi : Nat) (h : SlB w lo hi A n l) (hn : n ≤ 1048576) (h0 : 0 ≤ m) (h1 : m ≤ 1099511627776) :
    Calls Try.prog 26 #[.slice A n c, .int .i64 m] w fun e w' => e = .returned (.int .i64 (m + n)) ∧ SlB w' lo hi A n (markB m n l) ∧ Only lo hi w w' := by
  replace h := hide h
  go_enter Try.func26, Try.ntmps26
  go_wp2
  go_loopw [1, 5] (fun s i wr => ∃ k : Nat, k ≤ n ∧ i = .int .i64 k ∧ s = .int .i64 (m + k) ∧ SlB wr lo hi A n (markB m k l) ∧ Only lo hi w wr) (fun _ i _ => n - (intOf i).toNat)
  case atStart => exact ⟨0, Nat.zero_le _, rfl, by go_num, h.out, Only.refl _ _ _⟩
  case round =>
    obtain ⟨k, hk, rfl, rfl, hs, ho⟩ := hrel
    clear h
    by_cases hlt : k < n
    · obtain ⟨b, off, rfl, g1, g2, g3, hx, c0, z0⟩ := SlB.get hs hlt
      have hnext := hide (SlB.put hs hlt ((m + k) % 3 == 0))
      have hsz := ho.size
      clear hs hx
      go_wp2
      go_roundw
      case rel => exact ⟨k + 1, by omega, by go_num, by go_num, hnext.out, ho.setCell g1 g2 _⟩
      case measure => simp [intOf]; omega
    · have hkn : k = n := by omega
      subst hkn
      replace hs := hide hs
      go_wp2
      go_ret
      exact ⟨rfl, hs.out, ho⟩

theorem heldBoolS_calls (A : Option Addr) (n c : Nat) (l : List Bool) (m : Int) (w : World) (lo hi : Nat) (h : SlB w lo hi A n l) (hn : n ≤ 1048576) (h0 : 0 ≤ m) (h1 : m ≤ 1099511627776)
    (hl : ∀ i, i < n → l[i]? = some ((m + (i : Int)) % 3 == 0)) :
    Calls Try.prog 27 #[.slice A n c, .int .i64 m] w fun e w' => e = .returned (.int .i64 (m + n)) ∧ w = w' := by
  replace hl := hide hl
  replace h := hide h
  go_enter Try.func27, Try.ntmps27
  go_wp2
  go_loop [1, 5] (fun s i => ∃ k : Nat, k ≤ n ∧ i = .int .i64 k ∧ s = .int .i64 (m + k)) (fun _ i => n - (intOf i).toNat)
  case atStart => exact ⟨0, Nat.zero_le _, rfl, by go_num⟩
  case round =>
    obtain ⟨k, hk, rfl, rfl⟩ := hrel
    by_cases hlt : k < n
    · obtain ⟨b, off, rfl, g1, g2, g3, hx, c0, z0⟩ := SlB.get h.out hlt
      have hy := inS_some (hl.out k hlt)
      rw [hy] at c0
      by_cases hq : ((m + (k : Int)) % 3 == 0) = true
      · rw [hq] at c0
        clear h hx hy
        go_wp2
        go_round
        case rel => exact ⟨k + 1, by omega, by go_num, by go_num⟩
        case measure => simp [intOf]; omega
      · replace hq := Bool.eq_false_iff.2 hq
        rw [hq] at c0
        clear h hx hy
        go_wp2
        go_round
        case rel => exact ⟨k + 1, by omega, by go_num, by go_num⟩
        case measure => simp [intOf]; omega
    · have hkn : k = n := by omega
      subst hkn
      go_wp2
      go_ret
      exact ⟨rfl, rfl⟩

def ResB (w : World) (lo hi : Nat) (v : Value) (d : List Bool) : Prop := ∃ A n c, v = .slice A n c ∧ n ≤ 1048576 ∧ SlB w lo hi A n d
def HeldB (m : Int) (d : List Bool) (m' : Int) : Prop := 0 ≤ m ∧ m ≤ 1099511627776 ∧ m' = m + (d.length : Int) ∧ ∀ i, i < d.length → d[i]? = some ((m + (i : Int)) % 3 == 0)
theorem ResB.below {w w' : World} {lo hi B : Nat} {v : Value} {d : List Bool} (h : ResB w lo hi v d) (hb : Below B w w') (hB : hi ≤ B ∨ w.heap.size ≤ B) : ResB w' lo hi v d := by
  obtain ⟨A, n, c, h1, h2, h3⟩ := h
  exact ⟨A, n, c, h1, h2, Sl.below h3 hb hB⟩
theorem ResB.only {w w' : World} {lo hi lo' hi' : Nat} {v : Value} {d : List Bool} (h : ResB w lo hi v d) (g : Only lo' hi' w w') (hd : hi ≤ lo' ∨ hi' ≤ lo) : ResB w' lo hi v d := by
  obtain ⟨A, n, c, h1, h2, h3⟩ := h
  exact ⟨A, n, c, h1, h2, Sl.only h3 g hd⟩
theorem eqBoolS_u {v u : Value} {d e : List Bool} {w : World} {lo hi lo' hi' : Nat} (h : ResB w lo hi v d) (g : ResB w lo' hi' u e) :
    Calls Try.prog 23 #[v, u] w fun r w' => r = .returned (.bool (decide (d = e))) ∧ Below w.heap.size w w' := by
  obtain ⟨A, n, c, rfl, h1, h2⟩ := h
  obtain ⟨B, m, b, rfl, g1, g2⟩ := g
  exact eqBoolS_calls A B n m c b d e w lo hi lo' hi' h2 g2 (by unfold maxLen; omega) (by unfold maxLen; omega)
theorem markBoolS_u {v : Value} {d : List Bool} {m : Int} {w : World} {lo hi : Nat} (h : ResB w lo hi v d) (h0 : 0 ≤ m) (h1 : m ≤ 549755813888) :
    Calls Try.prog 26 #[v, .int .i64 m] w fun e w' => ∃ m' d', e = .returned (.int .i64 m') ∧ m ≤ m' ∧ m' ≤ m + 8388608 ∧ Only lo hi w w' ∧ ResB w' lo hi v d' ∧ HeldB m d' m' := by
  obtain ⟨A, n, c, rfl, h2, h3⟩ := h
  have hl : d.length = n := Sl.len h3
  refine (markBoolS_calls A n c d m w lo hi h3 h2 h0 (by omega)).mono ?_
  rintro e w' ⟨rfl, hs, ho⟩
  refine ⟨_, _, rfl, by omega, by omega, ho, ⟨A, n, c, rfl, h2, hs⟩, h0, by omega, by rw [markB_len, hl], fun i hi => ?_⟩
  rw [markB_len] at hi
  rw [markB_get _ _ _ i (by omega) hi]
theorem heldBoolS_u {v : Value} {d : List Bool} {m m' : Int} {w : World} {lo hi : Nat} (h : ResB w lo hi v d) (hh : HeldB m d m') :
    Calls Try.prog 27 #[v, .int .i64 m] w fun e w' => e = .returned (.int .i64 m') ∧ w = w' := by
  obtain ⟨A, n, c, rfl, h2, h3⟩ := h
  obtain ⟨k0, k1, rfl, k2⟩ := hh
  have hl : d.length = n := Sl.len h3
  rw [hl]
  exact heldBoolS_calls A n c d m w lo hi h3 h2 k0 k1 (fun i hi => k2 i (by omega))

end Go.Proofs.Ytbnneahjjcamlaa
