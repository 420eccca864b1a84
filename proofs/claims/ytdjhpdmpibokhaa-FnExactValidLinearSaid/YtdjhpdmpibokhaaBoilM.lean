/-
  The laws' helpers on lists of terms: marking and asking for the marks. Conditions: at most 1048576 terms, marks below 2^40.
-/
import Derived.Test.YtdjhpdmpibokhaaRows
import Derived.Test.YtdjhpdmpibokhaaWords
import Derived.LoopTactic
namespace Go.Proofs.Ytdjhpdmpibokhaa
open Go.ChangeShapes Go.WideShapes Go.ChangeAt Go.RowKit
set_option linter.unusedVariables false

theorem markTermS_calls (A : Option Addr) (n c : Nat) (l : List (Int × Int)) (m : Int) (w : World) (lo hi : Nat) (h : SlT w lo hi A n l) (hn : n ≤ 1048576) (h0 : 0 ≤ m) (h1 : m ≤ 1099511627776) :
    Calls Try.prog 19 #[.slice A n c, .int .i64 m] w fun e w' => e = .returned (.int .i64 (m + 2 * n)) ∧ SlT w' lo hi A n (markT m n l) ∧ Only lo hi w w' := by
  go_enter Try.func19, Try.ntmps19
  go_wp2
  go_loopw [1, 5] (fun s i wr => ∃ k : Nat, k ≤ n ∧ i = .int .i64 k ∧ s = .int .i64 (m + 2 * k) ∧ SlT wr lo hi A n (markT m k l) ∧ Only lo hi w wr) (fun _ i _ => n - (intOf i).toNat)
  case atStart => exact ⟨0, Nat.zero_le _, rfl, by go_num, h, Only.refl _ _ _⟩
  case round =>
    obtain ⟨k, hk, rfl, rfl, hs, ho⟩ := hrel
    clear h
    by_cases hlt : k < n
    · obtain ⟨b, off, x1, x2, rfl, g1, g2, g3, hx, c0, c1, z0, z1⟩ := hs.get hlt
      have hnext := hide (hs.put hlt (m + 2 * k) (m + 2 * k + 1))
      have hsz := ho.size
      clear hs hx
      go_wp2
      go_roundw
      case rel => exact ⟨k + 1, by omega, by go_num, by go_num, hnext.out, (ho.setCell g1 g2 _).setCell g1 g2 _⟩
      case measure => simp [intOf]; omega
    · have hkn : k = n := by omega
      subst hkn
      go_wp2
      go_ret
      exact ⟨rfl, hs, ho⟩

theorem heldTermS_calls (A : Option Addr) (n c : Nat) (l : List (Int × Int)) (m : Int) (w : World) (lo hi : Nat) (h : SlT w lo hi A n l) (hn : n ≤ 1048576) (h0 : 0 ≤ m) (h1 : m ≤ 1099511627776)
    (hl : ∀ i, i < n → l[i]? = some (m + 2 * (i : Int), m + 2 * (i : Int) + 1)) :
    Calls Try.prog 20 #[.slice A n c, .int .i64 m] w fun e w' => e = .returned (.int .i64 (m + 2 * n)) ∧ w = w' := by
  replace hl := hide hl
  go_enter Try.func20, Try.ntmps20
  go_wp2
  go_loop [1, 5] (fun s i => ∃ k : Nat, k ≤ n ∧ i = .int .i64 k ∧ s = .int .i64 (m + 2 * k)) (fun _ i => n - (intOf i).toNat)
  case atStart => exact ⟨0, Nat.zero_le _, rfl, by go_num⟩
  case round =>
    obtain ⟨k, hk, rfl, rfl⟩ := hrel
    by_cases hlt : k < n
    · obtain ⟨b, off, x1, x2, rfl, g1, g2, g3, hx, c0, c1, z0, z1⟩ := h.get hlt
      rw [hl.out k hlt] at hx
      injection hx with hx
      injection hx with hx1 hx2
      subst hx1 hx2
      clear h
      go_wp2
      go_round
      case rel => exact ⟨k + 1, by omega, by go_num, by go_num⟩
      case measure => simp [intOf]; omega
    · have hkn : k = n := by omega
      subst hkn
      go_wp2
      go_ret
      exact ⟨rfl, rfl⟩

end Go.Proofs.Ytdjhpdmpibokhaa
