/-
  slices.Sort on a short list of texts that rises already. Conditions: at most 12 texts.
-/
import Derived.Test.YtiaclddgllkgpaaGreatDoorBaseE
import Derived.Test.YtiaclddgllkgpaaGreatDoorBaseB
namespace Go.Proofs.YtiaclddgllkgpaaGreatDoor
open Go.ChangeShapes Go.WideShapes Go.ChangeAt Go.RowKit Go.Sort
set_option linter.unusedVariables false
set_option linter.unusedSimpArgs false

theorem isNaNS_calls (x : ByteArray) (w : World) : Calls Tryz.prog 211 #[.string x] w fun e w' => e = .returned (.bool false) ∧ w = w' := by
  have h : (x.toList == x.toList) = true := beq_self_eq_true _
  go_enter Tryz.func211, Tryz.ntmps211
  go_wp2
  go_ret
  exact ⟨rfl, rfl⟩
theorem lessS_calls (x y : ByteArray) (w : World) : Calls Tryz.prog 174 #[.string x, .string y] w fun e w' => e = .returned (.bool (Op.bytesLess x.toList y.toList)) ∧ w = w' := by
  have q1 := hide (isNaNS_calls x)
  have q2 := hide (isNaNS_calls y)
  go_enter Tryz.func174, Tryz.ntmps174
  go_wp2_with fail
  refine (q1.out _).mono ?_
  rintro e w1 ⟨rfl, rfl⟩
  go_wp2_with fail
  go_ret
  exact ⟨rfl, rfl⟩

theorem bytesLess_asym {a b : List UInt8} (h : Op.bytesLess a b = true) : Op.bytesLess b a = false := by
  cases e : Op.bytesLess b a with
  | false => rfl
  | true =>
    have := bytesLess_trans h e
    rw [bytesLess_irrefl] at this
    cases this
def RisesS (l : List ByteArray) : Prop := ∀ (k : Nat) (x y : ByteArray), l[k]? = some x → l[k + 1]? = some y → Op.bytesLess x.toList y.toList = true

set_option maxRecDepth 100000 in
set_option maxHeartbeats 800000 in
theorem insertS_calls (A : Option Addr) (n c : Nat) (l : List ByteArray) (w : World) (lo hi : Nat) (h : SlS w lo hi A n l) (hn : n ≤ 1000) (hr : RisesS l) :
    Calls Tryz.prog 168 #[.slice A n c, .int .i64 0, .int .i64 (n : Int)] w fun e w' => e = .returned (.tuple #[]) ∧ Below w.heap.size w w' := by
  replace hr := hide hr
  go_enter Tryz.func168, Tryz.ntmps168
  go_wp2
  go_loopw [6] (fun i wr => ∃ k : Nat, 1 ≤ k ∧ k ≤ n + 1 ∧ i = .int .i64 (k : Nat) ∧ Below w.heap.size w wr) (fun i _ => n + 1 - (intOf i).toNat)
  case atStart => exact ⟨1, Nat.le_refl _, by omega, rfl, Below.refl _ _⟩
  case round =>
    obtain ⟨k, hk1, hk, rfl, hb⟩ := hrel
    by_cases hlt : k < n
    · obtain ⟨k, rfl⟩ : ∃ j, k = j + 1 := ⟨k - 1, by omega⟩
      obtain ⟨b, off, y, rfl, -, -, g3, hy, c1, -⟩ := SlS.get h hlt
      obtain ⟨b', off', x, e, -, -, -, hx, c0, -⟩ := SlS.get h (show k < n by omega)
      cases e
      replace c0 := (hb.cell (p := ⟨b, off + k, none⟩) g3).trans c0
      replace c1 := (hb.cell (p := ⟨b, off + (k + 1), none⟩) g3).trans c1
      have hls := bytesLess_asym (hr.out k x y hx hy)
      have q := fun n => lessS_calls y x (wr.drewN n)
      rw [hls] at q
      replace q := hide q
      have i1 : (0 : Int) ≤ ((k + 1 : Nat) : Int) := by omega
      have i2 : ((k + 1 : Nat) : Int) < (n : Int) := by omega
      have i3 : (0 : Int) ≤ (k : Int) := by omega
      have i4 : (k : Int) < (n : Int) := by omega
      have d1 : decide ((0 : Int) < ((k + 1 : Nat) : Int)) = true := decide_eq_true (by omega)
      have es : ((k + 1 : Nat) : Int) - 1 = (k : Int) := by omega
      clear h hx hy hls
      replace hb := hide hb
      go_wp2
      obtain ⟨wo, rfl⟩ : ∃ wo : World, wo = wr := ⟨_, rfl⟩
      go_loopw [7] (fun j wx => j = .int .i64 ((k + 1 : Nat) : Int) ∧ wx = wo) (fun _ _ => 0)
      case atStart => exact ⟨rfl, rfl⟩
      case round =>
        obtain ⟨rfl, rfl⟩ := hrel
        go_wp2
        go_quiet ((go_at_call 174; with_reducible exact same_quiet (q.out _)))
        go_wp2
        go_roundw
        case rel => exact ⟨k + 1 + 1, by omega, by omega, by go_num, hb.out.trans ((below_drewN _ _).mono hb.out.size)⟩
        case measure => simp [intOf]; omega
    · have hltI : ¬ (k : Int) < (n : Int) := by omega
      replace hb := hide hb
      clear h
      go_wp2
      go_returns
      exact ⟨rfl, hb.out⟩

theorem len64_few (n : Nat) (hn : n ≤ 12) (w : World) : Calls Tryz.prog 178 #[.int .u64 (n : Int)] w fun e w' => ∃ m : Int, e = .returned (.int .i64 m) ∧ w = w' := by
  have h : n = 0 ∨ n = 1 ∨ n = 2 ∨ n = 3 ∨ n = 4 ∨ n = 5 ∨ n = 6 ∨ n = 7 ∨ n = 8 ∨ n = 9 ∨ n = 10 ∨ n = 11 ∨ n = 12 := by omega
  rcases h with rfl | rfl | rfl | rfl | rfl | rfl | rfl | rfl | rfl | rfl | rfl | rfl | rfl
  all_goals
    go_enter Tryz.func178, Tryz.ntmps178
    go_wp2
    go_ret
    exact ⟨_, rfl, rfl⟩
theorem len_few (n : Nat) (hn : n ≤ 12) (w : World) : Calls Tryz.prog 134 #[.int .u64 (n : Int)] w fun e w' => ∃ m : Int, e = .returned (.int .i64 m) ∧ w = w' := by
  have q := hide (len64_few n hn w)
  have h : n = 0 ∨ n = 1 ∨ n = 2 ∨ n = 3 ∨ n = 4 ∨ n = 5 ∨ n = 6 ∨ n = 7 ∨ n = 8 ∨ n = 9 ∨ n = 10 ∨ n = 11 ∨ n = 12 := by omega
  rcases h with rfl | rfl | rfl | rfl | rfl | rfl | rfl | rfl | rfl | rfl | rfl | rfl | rfl
  all_goals
    go_enter Tryz.func134, Tryz.ntmps134
    go_wp2_with fail
    refine q.out.mono ?_
    rintro e w1 ⟨m, rfl, rfl⟩
    go_wp2_with fail
    go_ret
    exact ⟨_, rfl, rfl⟩
theorem pdqS_calls (A : Option Addr) (n c : Nat) (m : Int) (l : List ByteArray) (w : World) (lo hi : Nat) (h : SlS w lo hi A n l) (hn : n ≤ 12) (hr : RisesS l) :
    Calls Tryz.prog 133 #[.slice A n c, .int .i64 0, .int .i64 (n : Int), .int .i64 m] w fun e w' => e = .returned (.tuple #[]) ∧ Below w.heap.size w w' := by
  have q := hide (insertS_calls A n c l w lo hi h (by omega) hr)
  have h1 : (n : Int) ≤ 12 := by omega
  clear h hr
  go_enter Tryz.func133, Tryz.ntmps133
  go_wp2
  go_loopw [1, 2] (fun a b wr => a = .int .i64 0 ∧ b = .int .i64 (n : Int) ∧ wr = w) (fun _ _ _ => 0)
  case atStart => exact ⟨rfl, rfl, rfl⟩
  case round =>
    obtain ⟨rfl, rfl, rfl⟩ := hrel
    go_wp2_with fail
    refine q.out.mono ?_
    rintro e w1 ⟨rfl, hb⟩
    replace hb := hide hb
    go_wp2_with fail
    go_returns
    exact ⟨rfl, hb.out⟩
theorem sortS_calls (A : Option Addr) (n c : Nat) (l : List ByteArray) (w : World) (lo hi : Nat) (h : SlS w lo hi A n l) (hn : n ≤ 12) (hr : RisesS l) :
    Calls Tryz.prog 93 #[.slice A n c] w fun e w' => e = .returned (.tuple #[]) ∧ Below w.heap.size w w' := by
  have q := hide (len_few n hn w)
  have q1 := hide (fun m => pdqS_calls A n c m l w lo hi h hn hr)
  have h1 : (n : Int) ≤ 12 := by omega
  clear h hr
  go_enter Tryz.func93, Tryz.ntmps93
  go_wp2_with fail
  refine q.out.mono ?_
  rintro e w1 ⟨m, rfl, rfl⟩
  go_wp2_with fail
  refine (q1.out m).mono ?_
  rintro e w1 ⟨rfl, hb⟩
  replace hb := hide hb
  go_wp2_with fail
  go_returns
  exact ⟨rfl, hb.out⟩

end Go.Proofs.YtiaclddgllkgpaaGreatDoor
