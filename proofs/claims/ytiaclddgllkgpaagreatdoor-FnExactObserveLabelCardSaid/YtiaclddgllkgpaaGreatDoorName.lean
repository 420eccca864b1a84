/-
  Names: the program's test and the reference's. Conditions: none.
-/
import Derived.Test.YtiaclddgllkgpaaGreatDoorBoilI
import Derived.StillTailTactics
namespace Go.Proofs.YtiaclddgllkgpaaGreatDoor
open Go.ChangeShapes Go.WideShapes Go.ChangeAt Go.RowKit
set_option linter.unusedVariables false

def smallB (c : Int) : Bool := decide (97 ≤ c) && decide (c ≤ 122)
def digitB (c : Int) : Bool := decide (48 ≤ c) && decide (c ≤ 57)

theorem isDigit_calls (c : Int) (w : World) : Calls Tryz.prog 196 #[.int .u8 c] w fun e w' => e = .returned (.bool (digitB c)) ∧ w = w' := by
  by_cases h1 : 48 ≤ c <;> by_cases h2 : c ≤ 57
  all_goals
    go_enter Tryz.func196, Tryz.ntmps196
    go_wp2
    go_ret
    exact ⟨by simp [digitB, h1, h2], rfl⟩
theorem l01Small_calls (c : Int) (w : World) : Calls Tryz.prog 222 #[.int .u8 c] w fun e w' => e = .returned (.bool (smallB c)) ∧ w = w' := by
  by_cases h1 : 97 ≤ c <;> by_cases h2 : c ≤ 122
  all_goals
    go_enter Tryz.func222, Tryz.ntmps222
    go_wp2
    go_ret
    exact ⟨by simp [smallB, h1, h2], rfl⟩
theorem l01Digit_calls (c : Int) (w : World) : Calls Tryz.prog 223 #[.int .u8 c] w fun e w' => e = .returned (.bool (digitB c)) ∧ w = w' := by
  by_cases h1 : 48 ≤ c <;> by_cases h2 : c ≤ 57
  all_goals
    go_enter Tryz.func223, Tryz.ntmps223
    go_wp2
    go_ret
    exact ⟨by simp [digitB, h1, h2], rfl⟩

/-- Byte k spoils a name. -/
def badX (k : Nat) (x : Int) : Bool := !(smallB x) && (decide (k = 0) || !(digitB x))
def badAt (s : ByteArray) (k : Nat) : Bool := match s.data.toList[k]? with | some c => badX k (c.toNat : Int) | none => false
def nameB (s : ByteArray) : Bool := (List.range s.size).all (fun k => !(badAt s k)) && decide (1 ≤ s.size ∧ s.size ≤ 10)
theorem badAt_get (s : ByteArray) (k : Nat) (h : k < s.size) : badAt s k = badX k (s[k].toNat : Int) := by
  unfold badAt
  have : s.data.toList[k]? = some s[k] := by
    rw [List.getElem?_eq_getElem (by simpa using h)]
    rfl
  rw [this]
theorem nameB_bad {s : ByteArray} {k : Nat} (h : k < s.size) (hb : badX k (s[k].toNat : Int) = true) : nameB s = false := by
  unfold nameB
  rw [Bool.and_eq_false_iff]
  left
  rw [← Bool.not_eq_true, List.all_eq_true]
  intro hc
  have := hc k (List.mem_range.2 h)
  rw [badAt_get s k h, hb] at this
  cases this
theorem nameB_good {s : ByteArray} (h : ∀ j (hj : j < s.size), badX j (s[j].toNat : Int) = false) : nameB s = decide (1 ≤ s.size ∧ s.size ≤ 10) := by
  unfold nameB
  rw [(List.all_eq_true.2 fun k hk => by rw [badAt_get s k (List.mem_range.1 hk), h k (List.mem_range.1 hk)]; rfl), Bool.true_and]

set_option maxHeartbeats 800000 in
set_option maxRecDepth 100000 in
theorem isName_calls (s : ByteArray) (w : World) (hs : s.size ≤ maxLen) : Calls Tryz.prog 158 #[.string s] w fun e w' => e = .returned (.bool (nameB s)) ∧ w = w' := by
  unfold maxLen at hs
  have hs63 : s.size ≤ 9223372036854775807 := by omega
  go_enter Tryz.func158, Tryz.ntmps158
  go_wp2
  go_loop [7] (fun i => ∃ k : Nat, k ≤ s.size ∧ i = .int .i64 k ∧ Hid (∀ j (hj : j < s.size), j < k → badX j (s[j].toNat : Int) = false)) (fun i => s.size - (intOf i).toNat)
  case atStart => exact ⟨0, Nat.zero_le _, rfl, fun j _ h => absurd h (by omega)⟩
  case round =>
    obtain ⟨k, hk, rfl, ha⟩ := hrel
    by_cases hlt : k < s.size
    · have hbad := hide (fun hb => nameB_bad (s := s) hlt hb)
      have hnext : Hid (badX k (s[k].toNat : Int) = false → ∀ j (hj : j < s.size), j < k + 1 → badX j (s[j].toNat : Int) = false) := fun hg j hj hjk => by
        rcases Nat.lt_or_ge j k with h1 | h1
        · exact ha.out j hj h1
        · have : j = k := by omega
          subst this
          exact hg
      have hq := hide (isDigit_calls (s[k].toNat : Int) w)
      generalize hc : (s[k].toNat : Int) = c at *
      have hgetk : ∀ h : k < s.size, (s[k].toNat : Int) = c := fun _ => hc
      by_cases h1 : 97 ≤ c ∧ c ≤ 122
      · have h1a := h1.1
        have h1b := h1.2
        have hg : Hid (badX k c = false) := by show _ = _; simp [badX, smallB, h1a, h1b]
        clear h1
        go_wp2_with fail
        go_round
        case rel => exact ⟨k + 1, by omega, by go_num, hnext.out hg.out⟩
        case measure => simp [intOf]; omega
      · by_cases h1a : 97 ≤ c
        · have h1b : ¬ c ≤ 122 := fun h => h1 ⟨h1a, h⟩
          clear h1
          have hsm : Hid (smallB c = false) := by show _ = _; simp [smallB]; omega
          by_cases hk0 : k = 0
          · have hv := hide (hbad.out (by rw [hk0]; simp [badX, hsm.out]))
            subst hk0
            clear hnext hq
            go_wp2_with fail
            go_ret
            exact ⟨ret_b (by rw [hv.out]), rfl⟩
          · have hki : ((k : Int) == 0) = false := by rw [beq_eq_false_iff_ne]; omega
            by_cases hd : digitB c = true
            · have hqq := hq.out
              rw [hd] at hqq
              replace hqq := hide hqq
              have hg : Hid (badX k c = false) := by show _ = _; simp [badX, hsm.out, hk0, hd]
              clear hd hq hk0
              go_wp2_with (go_at_call 196; (with_reducible refine hqq.out.mono ?_); rintro e w1 ⟨rfl, rfl⟩)
              go_round
              case rel => exact ⟨k + 1, by omega, by go_num, hnext.out hg.out⟩
              case measure => simp [intOf]; omega
            · have hqq := hq.out
              replace hd := Bool.eq_false_iff.2 hd
              rw [hd] at hqq
              replace hqq := hide hqq
              have hv := hide (hbad.out (by simp [badX, hsm.out, hd]))
              clear hd hq hk0 hnext
              go_wp2_with (go_at_call 196; (with_reducible refine hqq.out.mono ?_); rintro e w1 ⟨rfl, rfl⟩)
              go_ret
              exact ⟨ret_b (by rw [hv.out]), rfl⟩
        · clear h1
          have hsm : Hid (smallB c = false) := by show _ = _; simp [smallB]; omega
          by_cases hk0 : k = 0
          · have hv := hide (hbad.out (by rw [hk0]; simp [badX, hsm.out]))
            subst hk0
            clear hnext hq
            go_wp2_with fail
            go_ret
            exact ⟨ret_b (by rw [hv.out]), rfl⟩
          · have hki : ((k : Int) == 0) = false := by rw [beq_eq_false_iff_ne]; omega
            by_cases hd : digitB c = true
            · have hqq := hq.out
              rw [hd] at hqq
              replace hqq := hide hqq
              have hg : Hid (badX k c = false) := by show _ = _; simp [badX, hsm.out, hk0, hd]
              clear hd hq hk0
              go_wp2_with (go_at_call 196; (with_reducible refine hqq.out.mono ?_); rintro e w1 ⟨rfl, rfl⟩)
              go_round
              case rel => exact ⟨k + 1, by omega, by go_num, hnext.out hg.out⟩
              case measure => simp [intOf]; omega
            · have hqq := hq.out
              replace hd := Bool.eq_false_iff.2 hd
              rw [hd] at hqq
              replace hqq := hide hqq
              have hv := hide (hbad.out (by simp [badX, hsm.out, hd]))
              clear hd hq hk0 hnext
              go_wp2_with (go_at_call 196; (with_reducible refine hqq.out.mono ?_); rintro e w1 ⟨rfl, rfl⟩)
              go_ret
              exact ⟨ret_b (by rw [hv.out]), rfl⟩
    · have hkn : k = s.size := by omega
      have hv := hide (nameB_good (s := s) (fun j hj => ha.out j hj (by omega)))
      by_cases z1 : 1 ≤ s.size
      · by_cases z2 : s.size ≤ 10
        · have hvv : Hid (nameB s = true) := by show _ = _; rw [hv.out]; simp [z1, z2]
          have z1i : (1 : Int) ≤ (s.size : Int) := by omega
          have z2i : (s.size : Int) ≤ 10 := by omega
          clear hv ha
          go_wp2_with fail
          go_ret
          exact ⟨ret_b (by rw [hvv.out]), rfl⟩
        · have hvv : Hid (nameB s = false) := by show _ = _; rw [hv.out]; simp [z2]
          have z1i : (1 : Int) ≤ (s.size : Int) := by omega
          have z2i : ¬ (s.size : Int) ≤ 10 := by omega
          clear hv ha
          go_wp2_with fail
          go_ret
          exact ⟨ret_b (by rw [hvv.out]), rfl⟩
      · have hvv : Hid (nameB s = false) := by show _ = _; rw [hv.out]; simp; omega
        have z1i : ¬ (1 : Int) ≤ (s.size : Int) := by omega
        clear hv ha
        go_wp2_with fail
        go_ret
        exact ⟨ret_b (by rw [hvv.out]), rfl⟩

theorem toList_len (s : ByteArray) : s.toList.length = s.size := by
  obtain ⟨⟨l⟩⟩ := s
  have e : (ByteArray.mk ⟨l⟩).toList = l := ByteArray.toList_mk l
  rw [e]
  rfl

set_option maxHeartbeats 800000 in
set_option maxRecDepth 100000 in
theorem l01Name_calls (s : ByteArray) (w : World) (hs : s.size ≤ maxLen) : Calls Tryz.prog 200 #[.string s] w fun e w' => e = .returned (.bool (nameB s)) ∧ w = w' := by
  unfold maxLen at hs
  have hs63 : s.size ≤ 9223372036854775807 := by omega
  rcases Nat.eq_zero_or_pos s.size with h0 | h0
  · have e0 : s.toList = [] := List.eq_nil_of_length_eq_zero (by rw [toList_len, h0])
    have hv : Hid (nameB s = false) := by show _ = _; unfold nameB; rw [Bool.and_eq_false_iff]; right; simp; omega
    clear h0
    go_enter Tryz.func200, Tryz.ntmps200
    go_wp2_with fail
    go_ret
    exact ⟨ret_b (by rw [hv.out]), rfl⟩
  have e0 : ¬ s.toList = [] := fun e => by have := toList_len s; rw [e] at this; simp at this; omega
  have e1 : s.toList.isEmpty = false := by rw [← Bool.not_eq_true, List.isEmpty_iff]; exact e0
  by_cases h1 : 10 < s.size
  · have h1i : (10 : Int) < (s.size : Int) := by omega
    have hv : Hid (nameB s = false) := by show _ = _; unfold nameB; rw [Bool.and_eq_false_iff]; right; simp; omega
    go_enter Tryz.func200, Tryz.ntmps200
    go_wp2_with fail
    go_ret
    exact ⟨ret_b (by rw [hv.out]), rfl⟩
  have h1i : ¬ (10 : Int) < (s.size : Int) := by omega
  have q0 := l01Small_calls (s[0].toNat : Int) w
  by_cases c0 : smallB (s[0].toNat : Int) = true
  · rw [c0] at q0
    replace q0 := hide q0
    replace c0 := hide c0
    go_enter Tryz.func200, Tryz.ntmps200
    go_wp2_with (first | (go_at_call 222; (with_reducible refine q0.out.mono ?_); rintro e w1 ⟨rfl, rfl⟩))
    go_loop [3] (fun i => ∃ k : Nat, k ≤ s.size ∧ i = .int .i64 k ∧ Hid (∀ j (hj : j < s.size), j < k → badX j (s[j].toNat : Int) = false)) (fun i => s.size - (intOf i).toNat)
    case atStart => exact ⟨0, Nat.zero_le _, rfl, fun j _ h => absurd h (by omega)⟩
    case round =>
      obtain ⟨k, hk, rfl, ha⟩ := hrel
      clear q0
      by_cases hlt : k < s.size
      · have hbad := hide (fun hb => nameB_bad (s := s) hlt hb)
        have hnext : Hid (badX k (s[k].toNat : Int) = false → ∀ j (hj : j < s.size), j < k + 1 → badX j (s[j].toNat : Int) = false) := fun hg j hj hjk => by
          rcases Nat.lt_or_ge j k with h1 | h1
          · exact ha.out j hj h1
          · have : j = k := by omega
            subst this
            exact hg
        have hz : Hid (k = 0 → smallB (s[k].toNat : Int) = true) := fun hk0 => by subst hk0; exact c0.out
        have hq1 := l01Small_calls (s[k].toNat : Int) w
        have hq2 := l01Digit_calls (s[k].toNat : Int) w
        clear c0 ha
        generalize hc : (s[k].toNat : Int) = c at *
        have hgetk : ∀ h : k < s.size, (s[k].toNat : Int) = c := fun _ => hc
        by_cases hsm : smallB c = true
        · rw [hsm] at hq1
          replace hq1 := hide hq1
          have hg : Hid (badX k c = false) := by show _ = _; simp [badX, hsm]
          clear hsm hq2 hbad hz
          go_wp2_with (first | (go_at_call 222; (with_reducible refine hq1.out.mono ?_); rintro e w1 ⟨rfl, rfl⟩))
          go_round
          case rel => exact ⟨k + 1, by omega, by go_num, hnext.out hg.out⟩
          case measure => simp [intOf]; omega
        · replace hsm := Bool.eq_false_iff.2 hsm
          rw [hsm] at hq1
          replace hq1 := hide hq1
          have hk0 : Hid (¬ k = 0) := fun h => by have := hz.out h; rw [hsm] at this; cases this
          by_cases hd : digitB c = true
          · rw [hd] at hq2
            replace hq2 := hide hq2
            have hg : Hid (badX k c = false) := by show _ = _; simp [badX, hsm, hk0.out, hd]
            clear hsm hd hbad hz
            go_wp2_with (first | (go_at_call 222; (with_reducible refine hq1.out.mono ?_); rintro e w1 ⟨rfl, rfl⟩) | (go_at_call 223; (with_reducible refine hq2.out.mono ?_); rintro e w1 ⟨rfl, rfl⟩))
            go_round
            case rel => exact ⟨k + 1, by omega, by go_num, hnext.out hg.out⟩
            case measure => simp [intOf]; omega
          · replace hd := Bool.eq_false_iff.2 hd
            rw [hd] at hq2
            replace hq2 := hide hq2
            have hv := hide (hbad.out (by simp [badX, hsm, hd]))
            clear hsm hd hbad hz hnext
            go_wp2_with (first | (go_at_call 222; (with_reducible refine hq1.out.mono ?_); rintro e w1 ⟨rfl, rfl⟩) | (go_at_call 223; (with_reducible refine hq2.out.mono ?_); rintro e w1 ⟨rfl, rfl⟩))
            go_ret
            exact ⟨ret_b (by rw [hv.out]), rfl⟩
      · have hkn : k = s.size := by omega
        have hv : Hid (nameB s = true) := by show _ = _; rw [nameB_good (s := s) (fun j hj => ha.out j hj (by omega))]; simp; omega
        clear ha c0
        go_wp2_with fail
        go_ret
        exact ⟨ret_b (by rw [hv.out]), rfl⟩
  · replace c0 := Bool.eq_false_iff.2 c0
    rw [c0] at q0
    replace q0 := hide q0
    have hv := hide (nameB_bad (s := s) h0 (by simp [badX, c0]))
    clear c0
    go_enter Tryz.func200, Tryz.ntmps200
    go_wp2_with (first | (go_at_call 222; (with_reducible refine q0.out.mono ?_); rintro e w1 ⟨rfl, rfl⟩))
    go_ret
    exact ⟨ret_b (by rw [hv.out]), rfl⟩

end Go.Proofs.YtiaclddgllkgpaaGreatDoor
