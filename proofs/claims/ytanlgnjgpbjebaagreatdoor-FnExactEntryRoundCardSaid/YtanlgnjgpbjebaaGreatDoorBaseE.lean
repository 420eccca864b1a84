/-
  Several texts in one:
  Names: the program's test and the reference's. Conditions: none.
  What a world brings of the library's settled variables, and the program's readings of numbers. Conditions: sizes.
  A world that meets the rows' condition on the library's variables, and what the condition gives. Conditions: none.
  The program's reading of one number. Conditions: sizes.
  The reference's cutting of texts. Conditions: sizes.
  The reference's reading of one number. Conditions: sizes.
  The reference's test of a label. Conditions: sizes.
  slices.IndexFunc and slices.ContainsFunc at whatever function value that answers a bool and changes nothing that was there. Conditions: at most 1048576 elements.
  The program's reading of lists of numbers, joining, tests of values. Conditions: sizes.
  The program's reading of a label. Conditions: sizes.
-/
import Derived.Test.YtanlgnjgpbjebaaGreatDoorBaseA
import Derived.Test.YtanlgnjgpbjebaaGreatDoorBaseC
import Derived.Test.YtanlgnjgpbjebaaGreatDoorBaseD
import Derived.StillTailTactics
import Derived.Lib.AppendIntMem
import Derived.WalkSmall
import Derived.LaidMore
import Derived.LaidLaws
import Derived.HandedShaped
import Derived.Stop.LaidErr
import Derived.Lib.LaidTab
import Derived.Deep.RegionLaw
import Derived.Test.YtanlgnjgpbjebaaGreatDoorRows
import Derived.LoopTactic
import Derived.Lib.ItoaLen
namespace Go.Proofs.YtanlgnjgpbjebaaGreatDoor
open Go.ChangeShapes Go.WideShapes Go.ChangeAt Go.RowKit
set_option linter.unusedVariables false

def smallB (c : Int) : Bool := decide (97 ≤ c) && decide (c ≤ 122)
def digitB (c : Int) : Bool := decide (48 ≤ c) && decide (c ≤ 57)

theorem isDigit_calls (c : Int) (w : World) : Calls Tryz.prog 205 #[.int .u8 c] w fun e w' => e = .returned (.bool (digitB c)) ∧ w = w' := by
  by_cases h1 : 48 ≤ c <;> by_cases h2 : c ≤ 57
  all_goals
    go_enter Tryz.func205, Tryz.ntmps205
    go_wp2
    go_ret
    exact ⟨by simp [digitB, h1, h2], rfl⟩
theorem l01Small_calls (c : Int) (w : World) : Calls Tryz.prog 193 #[.int .u8 c] w fun e w' => e = .returned (.bool (smallB c)) ∧ w = w' := by
  by_cases h1 : 97 ≤ c <;> by_cases h2 : c ≤ 122
  all_goals
    go_enter Tryz.func193, Tryz.ntmps193
    go_wp2
    go_ret
    exact ⟨by simp [smallB, h1, h2], rfl⟩
theorem l01Digit_calls (c : Int) (w : World) : Calls Tryz.prog 194 #[.int .u8 c] w fun e w' => e = .returned (.bool (digitB c)) ∧ w = w' := by
  by_cases h1 : 48 ≤ c <;> by_cases h2 : c ≤ 57
  all_goals
    go_enter Tryz.func194, Tryz.ntmps194
    go_wp2
    go_ret
    exact ⟨by simp [digitB, h1, h2], rfl⟩

/-- Byte k spoils a name. -/
def badX (k : Nat) (x : Int) : Bool := !(smallB x) && (decide (k = 0) || !(digitB x))
def badAt (s : ByteArray) (k : Nat) : Bool := match s.data.toList[k]? with | some c => badX k (c.toNat : Int) | none => false
def nameB (s : ByteArray) : Bool := (List.range s.size).all (fun k => !(badAt s k)) && decide (1 ≤ s.size ∧ s.size ≤ 10)
theorem badAt_get (s : ByteArray) (k : Nat) (h : k < s.size) : badAt s k = badX k (s[k].toNat : Int) := by
  unfold badAt
  have : s.data.toList[k]? = some s[k] := by
    rw [List.getElem?_eq_getElem (by simpa using h)]
    rfl
  rw [this]
theorem nameB_bad {s : ByteArray} {k : Nat} (h : k < s.size) (hb : badX k (s[k].toNat : Int) = true) : nameB s = false := by
  unfold nameB
  rw [Bool.and_eq_false_iff]
  left
  rw [← Bool.not_eq_true, List.all_eq_true]
  intro hc
  have := hc k (List.mem_range.2 h)
  rw [badAt_get s k h, hb] at this
  cases this
theorem nameB_good {s : ByteArray} (h : ∀ j (hj : j < s.size), badX j (s[j].toNat : Int) = false) : nameB s = decide (1 ≤ s.size ∧ s.size ≤ 10) := by
  unfold nameB
  rw [(List.all_eq_true.2 fun k hk => by rw [badAt_get s k (List.mem_range.1 hk), h k (List.mem_range.1 hk)]; rfl), Bool.true_and]

set_option maxHeartbeats 800000 in
set_option maxRecDepth 100000 in
theorem isName_calls (s : ByteArray) (w : World) (hs : s.size ≤ maxLen) : Calls Tryz.prog 180 #[.string s] w fun e w' => e = .returned (.bool (nameB s)) ∧ w = w' := by
  unfold maxLen at hs
  have hs63 : s.size ≤ 9223372036854775807 := by omega
  go_enter Tryz.func180, Tryz.ntmps180
  go_wp2
  go_loop [7] (fun i => ∃ k : Nat, k ≤ s.size ∧ i = .int .i64 k ∧ Hid (∀ j (hj : j < s.size), j < k → badX j (s[j].toNat : Int) = false)) (fun i => s.size - (intOf i).toNat)
  case atStart => exact ⟨0, Nat.zero_le _, rfl, fun j _ h => absurd h (by omega)⟩
  case round =>
    obtain ⟨k, hk, rfl, ha⟩ := hrel
    by_cases hlt : k < s.size
    · have hbad := hide (fun hb => nameB_bad (s := s) hlt hb)
      have hnext : Hid (badX k (s[k].toNat : Int) = false → ∀ j (hj : j < s.size), j < k + 1 → badX j (s[j].toNat : Int) = false) := fun hg j hj hjk => by
        rcases Nat.lt_or_ge j k with h1 | h1
        · exact ha.out j hj h1
        · have : j = k := by omega
          subst this
          exact hg
      have hq := hide (isDigit_calls (s[k].toNat : Int) w)
      generalize hc : (s[k].toNat : Int) = c at *
      have hgetk : ∀ h : k < s.size, (s[k].toNat : Int) = c := fun _ => hc
      by_cases h1 : 97 ≤ c ∧ c ≤ 122
      · have h1a := h1.1
        have h1b := h1.2
        have hg : Hid (badX k c = false) := by show _ = _; simp [badX, smallB, h1a, h1b]
        clear h1
        go_wp2_with fail
        go_round
        case rel => exact ⟨k + 1, by omega, by go_num, hnext.out hg.out⟩
        case measure => simp [intOf]; omega
      · by_cases h1a : 97 ≤ c
        · have h1b : ¬ c ≤ 122 := fun h => h1 ⟨h1a, h⟩
          clear h1
          have hsm : Hid (smallB c = false) := by show _ = _; simp [smallB]; omega
          by_cases hk0 : k = 0
          · have hv := hide (hbad.out (by rw [hk0]; simp [badX, hsm.out]))
            subst hk0
            clear hnext hq
            go_wp2_with fail
            go_ret
            exact ⟨ret_b (by rw [hv.out]), rfl⟩
          · have hki : ((k : Int) == 0) = false := by rw [beq_eq_false_iff_ne]; omega
            by_cases hd : digitB c = true
            · have hqq := hq.out
              rw [hd] at hqq
              replace hqq := hide hqq
              have hg : Hid (badX k c = false) := by show _ = _; simp [badX, hsm.out, hk0, hd]
              clear hd hq hk0
              go_wp2_with (go_at_call 205; (with_reducible refine hqq.out.mono ?_); rintro e w1 ⟨rfl, rfl⟩)
              go_round
              case rel => exact ⟨k + 1, by omega, by go_num, hnext.out hg.out⟩
              case measure => simp [intOf]; omega
            · have hqq := hq.out
              replace hd := Bool.eq_false_iff.2 hd
              rw [hd] at hqq
              replace hqq := hide hqq
              have hv := hide (hbad.out (by simp [badX, hsm.out, hd]))
              clear hd hq hk0 hnext
              go_wp2_with (go_at_call 205; (with_reducible refine hqq.out.mono ?_); rintro e w1 ⟨rfl, rfl⟩)
              go_ret
              exact ⟨ret_b (by rw [hv.out]), rfl⟩
        · clear h1
          have hsm : Hid (smallB c = false) := by show _ = _; simp [smallB]; omega
          by_cases hk0 : k = 0
          · have hv := hide (hbad.out (by rw [hk0]; simp [badX, hsm.out]))
            subst hk0
            clear hnext hq
            go_wp2_with fail
            go_ret
            exact ⟨ret_b (by rw [hv.out]), rfl⟩
          · have hki : ((k : Int) == 0) = false := by rw [beq_eq_false_iff_ne]; omega
            by_cases hd : digitB c = true
            · have hqq := hq.out
              rw [hd] at hqq
              replace hqq := hide hqq
              have hg : Hid (badX k c = false) := by show _ = _; simp [badX, hsm.out, hk0, hd]
              clear hd hq hk0
              go_wp2_with (go_at_call 205; (with_reducible refine hqq.out.mono ?_); rintro e w1 ⟨rfl, rfl⟩)
              go_round
              case rel => exact ⟨k + 1, by omega, by go_num, hnext.out hg.out⟩
              case measure => simp [intOf]; omega
            · have hqq := hq.out
              replace hd := Bool.eq_false_iff.2 hd
              rw [hd] at hqq
              replace hqq := hide hqq
              have hv := hide (hbad.out (by simp [badX, hsm.out, hd]))
              clear hd hq hk0 hnext
              go_wp2_with (go_at_call 205; (with_reducible refine hqq.out.mono ?_); rintro e w1 ⟨rfl, rfl⟩)
              go_ret
              exact ⟨ret_b (by rw [hv.out]), rfl⟩
    · have hkn : k = s.size := by omega
      have hv := hide (nameB_good (s := s) (fun j hj => ha.out j hj (by omega)))
      by_cases z1 : 1 ≤ s.size
      · by_cases z2 : s.size ≤ 10
        · have hvv : Hid (nameB s = true) := by show _ = _; rw [hv.out]; simp [z1, z2]
          have z1i : (1 : Int) ≤ (s.size : Int) := by omega
          have z2i : (s.size : Int) ≤ 10 := by omega
          clear hv ha
          go_wp2_with fail
          go_ret
          exact ⟨ret_b (by rw [hvv.out]), rfl⟩
        · have hvv : Hid (nameB s = false) := by show _ = _; rw [hv.out]; simp [z2]
          have z1i : (1 : Int) ≤ (s.size : Int) := by omega
          have z2i : ¬ (s.size : Int) ≤ 10 := by omega
          clear hv ha
          go_wp2_with fail
          go_ret
          exact ⟨ret_b (by rw [hvv.out]), rfl⟩
      · have hvv : Hid (nameB s = false) := by show _ = _; rw [hv.out]; simp; omega
        have z1i : ¬ (1 : Int) ≤ (s.size : Int) := by omega
        clear hv ha
        go_wp2_with fail
        go_ret
        exact ⟨ret_b (by rw [hvv.out]), rfl⟩

theorem toList_len (s : ByteArray) : s.toList.length = s.size := by
  obtain ⟨⟨l⟩⟩ := s
  have e : (ByteArray.mk ⟨l⟩).toList = l := ByteArray.toList_mk l
  rw [e]
  rfl

set_option maxHeartbeats 800000 in
set_option maxRecDepth 100000 in
theorem l01Name_calls (s : ByteArray) (w : World) (hs : s.size ≤ maxLen) : Calls Tryz.prog 170 #[.string s] w fun e w' => e = .returned (.bool (nameB s)) ∧ w = w' := by
  unfold maxLen at hs
  have hs63 : s.size ≤ 9223372036854775807 := by omega
  rcases Nat.eq_zero_or_pos s.size with h0 | h0
  · have e0 : s.toList = [] := List.eq_nil_of_length_eq_zero (by rw [toList_len, h0])
    have hv : Hid (nameB s = false) := by show _ = _; unfold nameB; rw [Bool.and_eq_false_iff]; right; simp; omega
    clear h0
    go_enter Tryz.func170, Tryz.ntmps170
    go_wp2_with fail
    go_ret
    exact ⟨ret_b (by rw [hv.out]), rfl⟩
  have e0 : ¬ s.toList = [] := fun e => by have := toList_len s; rw [e] at this; simp at this; omega
  have e1 : s.toList.isEmpty = false := by rw [← Bool.not_eq_true, List.isEmpty_iff]; exact e0
  by_cases h1 : 10 < s.size
  · have h1i : (10 : Int) < (s.size : Int) := by omega
    have hv : Hid (nameB s = false) := by show _ = _; unfold nameB; rw [Bool.and_eq_false_iff]; right; simp; omega
    go_enter Tryz.func170, Tryz.ntmps170
    go_wp2_with fail
    go_ret
    exact ⟨ret_b (by rw [hv.out]), rfl⟩
  have h1i : ¬ (10 : Int) < (s.size : Int) := by omega
  have q0 := l01Small_calls (s[0].toNat : Int) w
  by_cases c0 : smallB (s[0].toNat : Int) = true
  · rw [c0] at q0
    replace q0 := hide q0
    replace c0 := hide c0
    go_enter Tryz.func170, Tryz.ntmps170
    go_wp2_with (first | (go_at_call 193; (with_reducible refine q0.out.mono ?_); rintro e w1 ⟨rfl, rfl⟩))
    go_loop [3] (fun i => ∃ k : Nat, k ≤ s.size ∧ i = .int .i64 k ∧ Hid (∀ j (hj : j < s.size), j < k → badX j (s[j].toNat : Int) = false)) (fun i => s.size - (intOf i).toNat)
    case atStart => exact ⟨0, Nat.zero_le _, rfl, fun j _ h => absurd h (by omega)⟩
    case round =>
      obtain ⟨k, hk, rfl, ha⟩ := hrel
      clear q0
      by_cases hlt : k < s.size
      · have hbad := hide (fun hb => nameB_bad (s := s) hlt hb)
        have hnext : Hid (badX k (s[k].toNat : Int) = false → ∀ j (hj : j < s.size), j < k + 1 → badX j (s[j].toNat : Int) = false) := fun hg j hj hjk => by
          rcases Nat.lt_or_ge j k with h1 | h1
          · exact ha.out j hj h1
          · have : j = k := by omega
            subst this
            exact hg
        have hz : Hid (k = 0 → smallB (s[k].toNat : Int) = true) := fun hk0 => by subst hk0; exact c0.out
        have hq1 := l01Small_calls (s[k].toNat : Int) w
        have hq2 := l01Digit_calls (s[k].toNat : Int) w
        clear c0 ha
        generalize hc : (s[k].toNat : Int) = c at *
        have hgetk : ∀ h : k < s.size, (s[k].toNat : Int) = c := fun _ => hc
        by_cases hsm : smallB c = true
        · rw [hsm] at hq1
          replace hq1 := hide hq1
          have hg : Hid (badX k c = false) := by show _ = _; simp [badX, hsm]
          clear hsm hq2 hbad hz
          go_wp2_with (first | (go_at_call 193; (with_reducible refine hq1.out.mono ?_); rintro e w1 ⟨rfl, rfl⟩))
          go_round
          case rel => exact ⟨k + 1, by omega, by go_num, hnext.out hg.out⟩
          case measure => simp [intOf]; omega
        · replace hsm := Bool.eq_false_iff.2 hsm
          rw [hsm] at hq1
          replace hq1 := hide hq1
          have hk0 : Hid (¬ k = 0) := fun h => by have := hz.out h; rw [hsm] at this; cases this
          by_cases hd : digitB c = true
          · rw [hd] at hq2
            replace hq2 := hide hq2
            have hg : Hid (badX k c = false) := by show _ = _; simp [badX, hsm, hk0.out, hd]
            clear hsm hd hbad hz
            go_wp2_with (first | (go_at_call 193; (with_reducible refine hq1.out.mono ?_); rintro e w1 ⟨rfl, rfl⟩) | (go_at_call 194; (with_reducible refine hq2.out.mono ?_); rintro e w1 ⟨rfl, rfl⟩))
            go_round
            case rel => exact ⟨k + 1, by omega, by go_num, hnext.out hg.out⟩
            case measure => simp [intOf]; omega
          · replace hd := Bool.eq_false_iff.2 hd
            rw [hd] at hq2
            replace hq2 := hide hq2
            have hv := hide (hbad.out (by simp [badX, hsm, hd]))
            clear hsm hd hbad hz hnext
            go_wp2_with (first | (go_at_call 193; (with_reducible refine hq1.out.mono ?_); rintro e w1 ⟨rfl, rfl⟩) | (go_at_call 194; (with_reducible refine hq2.out.mono ?_); rintro e w1 ⟨rfl, rfl⟩))
            go_ret
            exact ⟨ret_b (by rw [hv.out]), rfl⟩
      · have hkn : k = s.size := by omega
        have hv : Hid (nameB s = true) := by show _ = _; rw [nameB_good (s := s) (fun j hj => ha.out j hj (by omega))]; simp; omega
        clear ha c0
        go_wp2_with fail
        go_ret
        exact ⟨ret_b (by rw [hv.out]), rfl⟩
  · replace c0 := Bool.eq_false_iff.2 c0
    rw [c0] at q0
    replace q0 := hide q0
    have hv := hide (nameB_bad (s := s) h0 (by simp [badX, c0]))
    clear c0
    go_enter Tryz.func170, Tryz.ntmps170
    go_wp2_with (first | (go_at_call 193; (with_reducible refine q0.out.mono ?_); rintro e w1 ⟨rfl, rfl⟩))
    go_ret
    exact ⟨ret_b (by rw [hv.out]), rfl⟩

end Go.Proofs.YtanlgnjgpbjebaaGreatDoor

namespace Go.Proofs.YtanlgnjgpbjebaaGreatDoor
open Go.ChangeShapes Go.WideShapes Go.ChangeAt Go.RowKit
set_option linter.unusedVariables false

structure Good (w : World) : Prop where
  shape : w.ShapedOpen Tryz.prog
  tab : Lib.TabIs Tryz.prog w "internal/strconv.uint64pow10" .u64 Lib.pow10Tab
  syn : ∃ tp p, w.var? Tryz.prog "strconv.ErrSyntax" = some #[.iface tp p]
def Env (w : World) : Prop := ∃ W0, Good W0 ∧ Below W0.heap.size W0 w
theorem Env.of {w : World} (h : Good w) : Env w := ⟨w, h, Below.refl _ _⟩
theorem Env.below {w w' : World} {B : Nat} (h : Env w) (hb : Below B w w') (hB : w.heap.size ≤ B) : Env w' := by
  obtain ⟨W0, h0, h1⟩ := h
  have hs := h1.size
  exact ⟨W0, h0, h1.trans (hb.mono (by omega))⟩
theorem var_lt {W : World} {n : String} {cs : Array Value} {g : Nat} (hg : Tryz.prog.globalNamed n = some g) (hv : W.var? Tryz.prog n = some cs) : g < W.heap.size := by
  unfold World.var? at hv
  rw [hg] at hv
  rcases Nat.lt_or_ge g W.heap.size with h | h
  · exact h
  · simp [Array.getElem?_eq_none h] at hv
set_option maxRecDepth 100000 in
theorem Env.good {w : World} (h : Env w) : Good w := by
  obtain ⟨W0, h0, h1⟩ := h
  have hblk : ∀ {k : Nat} {o : Obj}, W0.heap[k]? = some o → w.heap[k]? = some o := fun {k o} hk => (h1.block k (Array.getElem?_eq_some_iff.1 hk).1).trans hk
  obtain ⟨g1, e1⟩ : ∃ g, Tryz.prog.globalNamed "internal/strconv.uint64pow10" = some g := Option.isSome_iff_exists.1 (by kernel_rfl)
  obtain ⟨g2, e2⟩ : ∃ g, Tryz.prog.globalNamed "strconv.ErrSyntax" = some g := Option.isSome_iff_exists.1 (by kernel_rfl)
  refine ⟨⟨fun g zero t hg hr => ?_, fun k hk1 hk2 => ?_⟩, ?_, ?_⟩
  · obtain ⟨cs, a, b, c⟩ := h0.shape.1 g zero t hg hr
    exact ⟨cs, hblk a, b, fun hb => Row.ok_of_shape (fun bb x hx => by
      unfold World.shape? at hx ⊢
      rcases Nat.lt_or_ge bb W0.heap.size with h | h
      · rw [h1.block bb h]; exact hx
      · simp [Array.getElem?_eq_none h] at hx) (c hb)⟩
  · obtain ⟨o, o2, a, b⟩ := h0.shape.2 k hk1 hk2
    exact ⟨o, o2, hblk a, b⟩
  · exact var?_below h1 e1 (var_lt e1 h0.tab) h0.tab
  · obtain ⟨tp, p, hv⟩ := h0.syn
    exact ⟨tp, p, var?_below h1 e2 (var_lt e2 hv) hv⟩

set_option maxRecDepth 100000 in
theorem decimal_calls (n : Int) (h0 : -9223372036854775808 ≤ n) (h1 : n ≤ 9223372036854775807) (w : World) (he : Env w) :
    Calls Tryz.prog 198 #[.int .i64 n] w fun e w' => e = .returned (.string ⟨(Lib.itoa n).toArray⟩) ∧ Below w.heap.size w w' := by
  have q := hide (Tryz.strconv_FormatInt_10 n h0 h1 w he.good.tab)
  clear he
  go_enter Tryz.func198, Tryz.ntmps198
  go_wp2_with fail
  refine q.out.mono ?_
  rintro e w1 ⟨rfl, k, os, rfl⟩
  go_wp2_with fail
  go_ret
  exact ⟨rfl, Lib.below_grow _ _ (Nat.le_refl _) _ _⟩

theorem parse_short (l : List UInt8) (h : ¬ 18 < (Lib.trimPrefix l [45]).length) :
    (∃ v : Int, Lib.parseIntB 64 l = .ok v ∧ -9223372036854775808 ≤ v ∧ v ≤ 9223372036854775807) ∨ Lib.parseIntB 64 l = Lib.NumEnd.syntax := by
  cases l with
  | nil => exact .inr rfl
  | cons c r =>
    have key : ∀ t : List UInt8, t.length ≤ 18 → Lib.parseUintB 64 t = Lib.NumEnd.syntax ∨ ∃ u, Lib.parseUintB 64 t = .ok u ∧ u < 10 ^ 18 := by
      intro t ht
      rw [parseUintB_short t ht]
      by_cases hd : t ≠ [] ∧ t.all isDig = true
      · rw [if_pos hd]
        exact .inr ⟨_, rfl, valN_18 ht hd.2⟩
      · rw [if_neg hd]
        exact .inl rfl
    have h18 : (10 : Nat) ^ 18 = 1000000000000000000 := by decide
    have h63 : (2 : Nat) ^ (64 - 1) = 9223372036854775808 := by decide
    rw [h18] at key
    unfold Lib.parseIntB
    by_cases hs : c.toNat = 43 ∨ c.toNat = 45
    · have hlen : r.length ≤ 18 := by
        by_cases hc : c = 45
        · subst hc
          have : Lib.trimPrefix (45 :: r) [45] = r := by unfold Lib.trimPrefix Lib.hasPrefix; simp
          rw [this] at h
          omega
        · have : Lib.trimPrefix (c :: r) [45] = c :: r := by
            unfold Lib.trimPrefix Lib.hasPrefix
            rw [if_neg]
            simp
            exact fun h => hc h.symm
          rw [this] at h
          simp only [List.length_cons] at h
          omega
      simp only [if_pos hs]
      rcases key _ hlen with h1 | ⟨u, h1, h2⟩
      · right
        rw [h1]
      · left
        rw [h1]
        simp only [h63]
        rw [if_neg (by omega), if_neg (by omega)]
        by_cases hn : c.toNat = 45
        · simp only [hn, if_true]
          exact ⟨_, rfl, by omega, by omega⟩
        · simp only [hn, if_false]
          exact ⟨_, rfl, by omega, by omega⟩
    · have hlen : (c :: r).length ≤ 18 := by
        have : Lib.trimPrefix (c :: r) [45] = c :: r := by
          unfold Lib.trimPrefix Lib.hasPrefix
          rw [if_neg]
          simp
          rintro rfl
          exact hs (Or.inr rfl)
        rw [this] at h
        omega
      simp only [if_neg hs]
      rcases key _ hlen with h1 | ⟨u, h1, h2⟩
      · right
        rw [h1]
      · left
        rw [h1]
        simp only [h63]
        rw [if_neg (by omega), if_neg (by omega)]
        have hn : ¬ c.toNat = 45 := fun e => hs (Or.inr e)
        simp only [hn, if_false]
        exact ⟨_, rfl, by omega, by omega⟩

/-- A number's reading as the two results. -/
def numR (o : Option Int) : Value := .tuple #[.int .i64 (o.getD 0), .bool o.isSome]
theorem numP_long {l : List UInt8} (h : 18 < (Lib.trimPrefix l [45]).length) : numP l = none := by unfold numP; rw [if_pos h]
theorem numP_syn {l : List UInt8} (h : Lib.parseIntB 64 l = Lib.NumEnd.syntax) : numP l = none := by unfold numP; rw [h]; split <;> rfl
theorem numP_ok {l : List UInt8} {v : Int} (hl : ¬ 18 < (Lib.trimPrefix l [45]).length) (h : Lib.parseIntB 64 l = .ok v) : numP l = if Lib.itoa v = l then some v else none := by unfold numP; rw [if_neg hl, h]
theorem bytes_eta (s : ByteArray) : (⟨s.data.toList.toArray⟩ : ByteArray) = s := by cases s; simp
theorem bytes_size (l : List UInt8) : (⟨l.toArray⟩ : ByteArray).size = l.length := by simp [ByteArray.size]

end Go.Proofs.YtanlgnjgpbjebaaGreatDoor

namespace Go.Proofs.YtanlgnjgpbjebaaGreatDoor
open Go.ChangeShapes Go.WideShapes Go.ChangeAt Go.RowKit Go.Lib
set_option linter.unusedVariables false

def cellsD : DataW Unit → List Value
  | .agg l => l.flatMap fun x => match x with
    | .lit (.int k z) => [.int k z]
    | _ => []
  | _ => []
noncomputable def laidWorld (os : Os) : World :=
  let w0 := World.doorLaid Tryz.prog 400 os
  { w0 with heap := w0.heap.modify 3 fun
      | .cells _ t f => .cells (cellsD Rows.laid_unicode_utf8_first).toArray t f
      | o => o }
theorem laid_met (os : Os) (args : Array Value) : laidMet Tryz.prog Rows.fnExactFormulaHoldsRow.laid ((laidWorld os).forCall (fun _ _ => 0) ⟨#[], args, []⟩).memory :=
  laidMet_of_run' 8 (by kernel_rfl) (by kernel_rfl)

end Go.Proofs.YtanlgnjgpbjebaaGreatDoor

namespace Go.Proofs.YtanlgnjgpbjebaaGreatDoor
open Go.ChangeShapes Go.WideShapes Go.ChangeAt Go.RowKit
set_option linter.unusedVariables false

set_option maxRecDepth 100000 in
set_option maxHeartbeats 800000 in
theorem readDecimal_calls (s : ByteArray) (hs : s.size ≤ 1048576) (w : World) (he : Env w) :
    Calls Tryz.prog 175 #[.string s] w fun e w' => e = .returned (numR (numS s.data.toList)) ∧ Below w.heap.size w w' := by
  rw [← numP_eq]
  have q1 : Calls Tryz.prog 196 #[.string s, .string ⟨#[45]⟩] w fun e w' => e = .returned (.string ⟨(Lib.trimPrefix s.data.toList [45]).toArray⟩) ∧ w' = w := Tryz.strings_TrimPrefix s ⟨#[45]⟩ w
  have hsz := bytes_size (Lib.trimPrefix s.data.toList [45])
  generalize (⟨(Lib.trimPrefix s.data.toList [45]).toArray⟩ : ByteArray) = t at *
  replace q1 := hide q1
  by_cases hl : 18 < (Lib.trimPrefix s.data.toList [45]).length
  · have hv := hide (numP_long hl)
    have hlt : (18 : Int) < (t.size : Int) := by omega
    clear hl hsz he
    go_enter Tryz.func175, Tryz.ntmps175
    go_wp2_with fail
    refine q1.out.mono ?_
    rintro e w1 ⟨rfl, rfl⟩
    go_wp2_with fail
    go_ret2
    exact ⟨by rw [hv.out]; rfl, Below.refl _ _⟩
  · have hlt : ¬ (18 : Int) < (t.size : Int) := by omega
    clear hsz
    rcases parse_short _ hl with ⟨v, hp, hb0, hb1⟩ | hp
    · have q2 := hide (((Tryz.strconv_ParseInt_10_at64_ok s (by omega) v hp w).mono fun e w' ⟨a, b⟩ => ⟨a, b.elim (fun h => h ▸ Below.refl _ _) (fun ⟨t, h⟩ => h ▸ Lib.bytesWorld_below _ _ _)⟩ :
        Calls Tryz.prog 197 #[.string s, .int .i64 10, .int .i64 64] w fun e w' => e = .returned (.tuple #[.int .i64 v, .nilIface]) ∧ Below w.heap.size w w'))
      have q3 := hide (fun W (hW : Below w.heap.size w W) => decimal_calls v hb0 hb1 W (he.below hW (Nat.le_refl _)))
      have hv := hide (numP_ok hl hp)
      clear hl hp he hb0 hb1
      by_cases hi : Lib.itoa v = s.data.toList
      · have hq : (⟨(Lib.itoa v).toArray⟩ : ByteArray) = s := by rw [hi, bytes_eta]
        have hv2 : Hid (numP s.data.toList = some v) := by show _ = _; rw [hv.out, if_pos hi]
        rw [hq] at q3
        clear hv hi hq
        go_enter Tryz.func175, Tryz.ntmps175
        go_wp2_with fail
        refine q1.out.mono ?_
        rintro e w1 ⟨rfl, rfl⟩
        go_wp2_with fail
        refine q2.out.mono ?_
        rintro e w2 ⟨rfl, hb2⟩
        go_wp2_with fail
        refine (q3.out _ hb2).mono ?_
        rintro e w3 ⟨rfl, hb3⟩
        go_wp2_with fail
        go_ret2
        exact ⟨by rw [hv2.out]; rfl, hb2.trans (hb3.mono hb2.size)⟩
      · have hq : (⟨(Lib.itoa v).toArray⟩ : ByteArray) ≠ s := by
          intro h
          apply hi
          rw [← h]
        have hv2 : Hid (numP s.data.toList = none) := by show _ = _; rw [hv.out, if_neg hi]
        have hne := str_neq hq
        clear hv hi hq
        generalize (⟨(Lib.itoa v).toArray⟩ : ByteArray) = u at *
        go_enter Tryz.func175, Tryz.ntmps175
        go_wp2_with fail
        refine q1.out.mono ?_
        rintro e w1 ⟨rfl, rfl⟩
        go_wp2_with fail
        refine q2.out.mono ?_
        rintro e w2 ⟨rfl, hb2⟩
        go_wp2_with fail
        refine (q3.out _ hb2).mono ?_
        rintro e w3 ⟨rfl, hb3⟩
        go_wp2_with fail
        go_ret2
        exact ⟨by rw [hv2.out]; rfl, hb2.trans (hb3.mono hb2.size)⟩
    · obtain ⟨tp, p, hvar⟩ := he.good.syn
      have q2 := hide (((Tryz.strconv_ParseInt_10_at64_syntax_var s (by omega) hp tp p w hvar).mono fun e w' ⟨N, a, _, _, b⟩ => ⟨N, a, b⟩ :
        Calls Tryz.prog 197 #[.string s, .int .i64 10, .int .i64 64] w fun e w' => ∃ N, e = .returned (.tuple #[.int .i64 0, .iface 237 (.pointer (some ⟨N, 0, none⟩))]) ∧ Below w.heap.size w w'))
      have hv := hide (numP_syn hp)
      clear hl hp he hvar
      go_enter Tryz.func175, Tryz.ntmps175
      go_wp2_with fail
      refine q1.out.mono ?_
      rintro e w1 ⟨rfl, rfl⟩
      go_wp2_with fail
      refine q2.out.mono ?_
      rintro e w2 ⟨N, rfl, hb2⟩
      go_wp2_with fail
      go_ret2
      exact ⟨by rw [hv.out]; rfl, hb2⟩

end Go.Proofs.YtanlgnjgpbjebaaGreatDoor

namespace Go.Proofs.YtanlgnjgpbjebaaGreatDoor
open Go.ChangeShapes Go.WideShapes Go.ChangeAt Go.RowKit
set_option linter.unusedVariables false

theorem bget (s : ByteArray) (k : Nat) (h : k < s.size) : s.data.toList[k]? = some s[k] := by
  rw [List.getElem?_eq_getElem (by simpa using h)]
  rfl
theorem bsize (s : ByteArray) : s.data.toList.length = s.size := by rw [Array.length_toList]; rfl
def mkB (l : List UInt8) : ByteArray := ⟨l.toArray⟩
theorem mkB_data (l : List UInt8) : (mkB l).data.toList = l := rfl
theorem mkB_size (l : List UInt8) : (mkB l).size = l.length := bytes_size l
theorem extract_mk (s : ByteArray) (a b : Nat) : s.extract a b = mkB ((s.data.toList.drop a).take (b - a)) := by
  apply ByteArray.ext
  apply Array.ext'
  show (s.extract a b).data.toList = (s.data.toList.drop a).take (b - a)
  rw [ByteArray.data_extract, Array.toList_extract]
theorem flat_strv : Flat strv 1 := ⟨fun _ => rfl, fun x u h => by simp [strv] at h; subst h; rfl⟩
theorem elem_str : Elem Tryz.prog 23 9 1 16 := Elem.of Tryz.underlying23 info_string rfl (by decide) (by decide)

theorem takeWhile_hit {c : UInt8} : ∀ {l : List UInt8} {k : Nat}, (∀ j x, j < k → l[j]? = some x → x ≠ c) → l[k]? = some c → (l.takeWhile (fun x => x != c)).length = k
  | [], k, _, h => by simp at h
  | y :: l, 0, _, h => by
    simp at h
    subst h
    simp
  | y :: l, k + 1, hn, h => by
    have hy : y ≠ c := hn 0 y (by omega) rfl
    rw [List.takeWhile_cons_of_pos (by simpa using hy), List.length_cons, takeWhile_hit (l := l) (k := k) (fun j x hj hx => hn (j + 1) x (by omega) (by simpa using hx)) (by simpa using h)]
theorem takeWhile_all {c : UInt8} : ∀ {l : List UInt8}, (∀ (j : Nat) x, l[j]? = some x → x ≠ c) → (l.takeWhile (fun x => x != c)).length = l.length
  | [], _ => rfl
  | y :: l, hn => by
    have hy : y ≠ c := hn 0 y rfl
    rw [List.takeWhile_cons_of_pos (by simpa using hy), List.length_cons, takeWhile_all (l := l) (fun j x hx => hn (j + 1) x (by simpa using hx)), List.length_cons]
def openN (s : ByteArray) : Nat := (s.data.toList.takeWhile (fun x => x != 40)).length

theorem l01Open_calls (s : ByteArray) (w : World) (hs : s.size ≤ 1048576) : Calls Tryz.prog 171 #[.string s] w fun e w' => e = .returned (.int .i64 (openN s)) ∧ w = w' := by
  go_enter Tryz.func171, Tryz.ntmps171
  go_wp2
  go_loop [3] (fun i => ∃ k : Nat, k ≤ s.size ∧ i = .int .i64 k ∧ Hid (∀ j x, j < k → s.data.toList[j]? = some x → x ≠ 40)) (fun i => s.size - (intOf i).toNat)
  case atStart => exact ⟨0, Nat.zero_le _, rfl, fun j x h => absurd h (by omega)⟩
  case round =>
    obtain ⟨k, hk, rfl, ha⟩ := hrel
    by_cases hlt : k < s.size
    · have hg := bget s k hlt
      by_cases h40 : s[k] = 40
      · have hv : Hid (openN s = k) := takeWhile_hit ha.out (by rw [hg, h40])
        have hc : ∀ h : k < s.size, (s[k].toNat : Int) = 40 := fun _ => by rw [h40]; rfl
        clear hg h40
        go_wp2
        go_ret
        exact ⟨ret_i (by rw [hv.out]), rfl⟩
      · have hnext : Hid (∀ j x, j < k + 1 → s.data.toList[j]? = some x → x ≠ 40) := fun j x hj hx => by
          rcases Nat.lt_or_ge j k with h1 | h1
          · exact ha.out j x h1 hx
          · have : j = k := by omega
            subst this
            rw [hg] at hx
            cases hx
            exact h40
        have hne : (s[k].toNat : Int) ≠ 40 := fun h => h40 (UInt8.toNat_inj.1 (by simpa using (by omega : s[k].toNat = 40)))
        generalize hc : (s[k].toNat : Int) = c at *
        have hgetk : ∀ h : k < s.size, (s[k].toNat : Int) = c := fun _ => hc
        have hcb : (c == 40) = false := by rw [beq_eq_false_iff_ne]; exact hne
        clear hg h40 hc hne
        go_wp2
        go_round
        case rel => exact ⟨k + 1, by omega, by go_num, hnext⟩
        case measure => simp [intOf]; omega
    · have hkn : k = s.size := by omega
      subst hkn
      have hv : Hid (openN s = s.size) := by
        show _ = _
        unfold openN
        rw [takeWhile_all (fun j x hx => ha.out j x (by rw [← bsize]; exact (List.getElem?_eq_some_iff.1 hx).1) hx), bsize]
      go_wp2
      go_ret
      exact ⟨ret_i (by rw [hv.out]), rfl⟩

theorem drop_at {l : List UInt8} {k a : Nat} {c : UInt8} (hk : l[k]? = some c) (ha : a ≤ k) : l.drop a = (l.drop a).take (k - a) ++ c :: l.drop (k + 1) := by
  have h1 : (l.drop a).drop (k - a) = c :: l.drop (k + 1) := by
    rw [List.drop_drop, show a + (k - a) = k by omega]
    obtain ⟨hl, hc⟩ := List.getElem?_eq_some_iff.1 hk
    rw [List.drop_eq_getElem_cons hl, hc]
  rw [← h1, List.take_append_drop]
theorem no_in {l : List UInt8} {k a : Nat} {c : UInt8} (h : ∀ j x, a ≤ j → j < k → l[j]? = some x → x ≠ c) : c ∉ (l.drop a).take (k - a) := by
  intro hm
  obtain ⟨i, hi⟩ := List.getElem?_of_mem hm
  rw [List.getElem?_take] at hi
  split at hi
  · rw [List.getElem?_drop] at hi
    exact h (a + i) c (by omega) (by omega) hi rfl
  · cases hi
def piecesB (c : UInt8) (s : ByteArray) : List ByteArray := (splitC c s.data.toList).map mkB
theorem splitC_len (c : UInt8) : ∀ l : List UInt8, (splitC c l).length ≤ l.length + 1
  | [] => by simp [splitC]
  | x :: l => by
    have ih := splitC_len c l
    by_cases hx : x = c
    · subst hx
      rw [splitC_ceq]
      simp only [List.length_cons]
      omega
    · rw [splitC_cne hx]
      simp only [List.length_cons, List.length_tail]
      omega

set_option maxHeartbeats 800000 in
set_option maxRecDepth 100000 in
theorem l01Split_calls (s : ByteArray) (w : World) (hs : s.size ≤ 1048576) : Calls Tryz.prog 172 #[.string s, .int .u8 44] w fun e w' => ∃ A n c, e = .returned (.slice A n c) ∧ n ≤ 1048577 ∧ SlS w' w.heap.size w'.heap.size A n (piecesB 44 s) ∧ Below w.heap.size w w' := by
  have hE := hide elem_str
  go_enter Tryz.func172, Tryz.ntmps172
  go_wp2
  go_loopw [5, 6, 7] (fun o f i wr => ∃ k a n c A done, k ≤ s.size ∧ a ≤ k ∧ n ≤ k ∧ o = .slice A n c ∧ f = .int .i64 (a : Nat) ∧ i = .int .i64 (k : Nat) ∧ Hid (Own 1 strv wr w.heap.size 9 A n c (done.map mkB)) ∧
    Hid (splitC 44 s.data.toList = done ++ splitC 44 (s.data.toList.drop a)) ∧ Hid (∀ j x, a ≤ j → j < k → s.data.toList[j]? = some x → x ≠ 44) ∧ Below w.heap.size w wr) (fun _ _ i _ => s.size - (intOf i).toNat)
  case atStart => exact ⟨0, 0, 0, 0, _, [], Nat.zero_le _, Nat.le_refl _, Nat.le_refl _, rfl, rfl, rfl, Own.made w 9 (Nat.le_refl _), rfl, fun j x h1 h2 => absurd h2 (by omega), (Below.refl _ _).alloc (Nat.le_refl _) _⟩
  case round =>
    obtain ⟨k, a, n, c, A, done, hk, hak, hnk, rfl, rfl, rfl, hown, hsp, hno, hb⟩ := hrel
    have hz := hb.size
    have hza : ∀ o, w.heap.size ≤ (wr.alloc o).heap.size := fun o => by rw [World.size_alloc]; omega
    by_cases hlt : k < s.size
    · have hg := bget s k hlt
      by_cases h44 : s[k] = 44
      · have hc : ∀ h : k < s.size, (s[k].toNat : Int) = 44 := fun _ => by rw [h44]; rfl
        have hsp2 : Hid (splitC 44 s.data.toList = (done ++ [(s.data.toList.drop a).take (k - a)]) ++ splitC 44 (s.data.toList.drop (k + 1))) := by
          show _ = _
          have hd := drop_at (hg.trans (by rw [h44]) : s.data.toList[k]? = some 44) hak
          rw [hsp.out, (congrArg (splitC 44) hd).trans (splitC_hit (no_in hno.out)), List.append_assoc]
          rfl
        have hext := hide (extract_mk s a k)
        clear hg h44 hsp hno
        go_wp2_with (first | (at_builtin; (with_reducible refine wpList_app rfl (.tmp 20) (.tmp 25) rfl hE.out flat_strv rfl (hown.out.alloc _) rfl (Sl.lit1' wr 9 (s.extract a k) _ rfl 1 _ ?c0) ?c1 (hza _) ?_); rotate_right; intro A5 c5 w5 hown5 hgr5 hb5 _))
        case c0 => rfl
        case c1 => omega
        go_roundw
        case rel =>
          refine ⟨k + 1, k + 1, n + 1, c5, A5, done ++ [(s.data.toList.drop a).take (k - a)], by omega, Nat.le_refl _, by omega, rfl, by go_num, by go_num, ?_, hsp2, fun j x h1 h2 => absurd h1 (by omega), (hb.alloc hz _).trans hb5⟩
          show Own _ _ _ _ _ _ _ _ _
          rw [List.map_append, List.map_cons, List.map_nil, ← hext.out]
          exact hown5
        case measure => simp [intOf]; omega
      · have hnext : Hid (∀ j x, a ≤ j → j < k + 1 → s.data.toList[j]? = some x → x ≠ 44) := fun j x h0 hj hx => by
          rcases Nat.lt_or_ge j k with h1 | h1
          · exact hno.out j x h0 h1 hx
          · have : j = k := by omega
            subst this
            rw [hg] at hx
            cases hx
            exact h44
        have hne : (s[k].toNat : Int) ≠ 44 := fun h => h44 (UInt8.toNat_inj.1 (by simpa using (by omega : s[k].toNat = 44)))
        generalize hc : (s[k].toNat : Int) = x at *
        have hgetk : ∀ h : k < s.size, (s[k].toNat : Int) = x := fun _ => hc
        have hcb : (x == 44) = false := by rw [beq_eq_false_iff_ne]; exact hne
        clear hg h44 hc hne
        go_wp2_with fail
        go_roundw
        case rel => exact ⟨k + 1, a, n, c, A, done, by omega, by omega, by omega, rfl, rfl, by go_num, hown, hsp, hnext, hb⟩
        case measure => simp [intOf]; omega
    · have hkn : k = s.size := by omega
      have hsp2 : Hid (splitC 44 s.data.toList = done ++ [s.data.toList.drop a]) := by
        show _ = _
        rw [hsp.out, splitC_miss]
        have := no_in (l := s.data.toList) (a := a) (k := k) hno.out
        rw [List.take_of_length_le (by rw [List.length_drop, bsize]; omega)] at this
        exact this
      have hext := hide (extract_mk s a s.size)
      subst hkn
      clear hsp hno
      go_wp2_with (first | (at_builtin; (with_reducible refine wpList_app rfl (.tmp 29) (.tmp 33) rfl hE.out flat_strv rfl (hown.out.alloc _) rfl (Sl.lit1' wr 9 (s.extract a s.size) _ rfl 1 _ ?c0) ?c1 (hza _) ?_); rotate_right; intro A5 c5 w5 hown5 hgr5 hb5 _))
      case c0 => rfl
      case c1 => omega
      go_ret
      have hsl := hown5.sl flat_strv
      refine ⟨A5, n + 1, c5, rfl, by omega, ?_, (hb.alloc hz _).trans hb5⟩
      unfold piecesB
      rw [hsp2.out, List.map_append, List.map_cons, List.map_nil]
      rw [hext.out, List.take_of_length_le (by rw [List.length_drop, bsize]; omega)] at hsl
      exact hsl

end Go.Proofs.YtanlgnjgpbjebaaGreatDoor

namespace Go.Proofs.YtanlgnjgpbjebaaGreatDoor
open Go.ChangeShapes Go.WideShapes Go.ChangeAt Go.RowKit
set_option linter.unusedVariables false

theorem isDig_B (x : UInt8) : isDig x = digitB (x.toNat : Int) := by
  unfold isDig digitB
  congr 1 <;> (rw [decide_eq_decide]; omega)
theorem numNeg_long {d : List UInt8} (h : ¬ d.length ≤ 18) : numNeg d = none := by unfold numNeg; rw [if_neg]; simp [h]
theorem numNeg_zero {d : List UInt8} (h : d.head? = some 48) : numNeg d = none := by unfold numNeg; rw [if_neg]; simp [h]
theorem numNeg_nd {d : List UInt8} (h : d.all isDig = false) : numNeg d = none := by unfold numNeg canon; rw [if_neg]; simp [h]
theorem numNeg_ok {d : List UInt8} (h0 : d ≠ []) (h1 : d.length ≤ 18) (h2 : d.head? ≠ some 48) (h3 : d.all isDig = true) : numNeg d = some (-(valN 0 d : Int)) := by unfold numNeg canon; rw [if_pos]; simp [h0, h1, h2, h3]
theorem numPos_long {d : List UInt8} (h : ¬ d.length ≤ 18) : numPos d = none := by unfold numPos; rw [if_neg]; simp [h]
theorem numPos_zero {d : List UInt8} (h : d.head? = some 48) (h1 : 1 < d.length) : numPos d = none := by
  unfold numPos canon
  rw [if_neg]
  have : ¬ d.length = 1 := by omega
  simp [h, this]
theorem numPos_nd {d : List UInt8} (h : d.all isDig = false) : numPos d = none := by unfold numPos canon; rw [if_neg]; simp [h]
theorem numPos_ok {d : List UInt8} (h0 : d ≠ []) (h1 : d.length ≤ 18) (h2 : ¬ (d.head? = some 48 ∧ 1 < d.length)) (h3 : d.all isDig = true) : numPos d = some (valN 0 d : Int) := by
  unfold numPos canon
  rw [if_pos]
  have : d.length = 1 ∨ d.head? ≠ some 48 := by
    by_cases h : d.length = 1
    · exact .inl h
    · right
      intro hh
      have : d.length ≠ 0 := fun e => h0 (List.eq_nil_of_length_eq_zero e)
      exact h2 ⟨hh, by omega⟩
  rcases this with h | h <;> simp [h0, h1, h, h3]
theorem take_dig {l : List UInt8} {k : Nat} {x : UInt8} (hx : l[k]? = some x) : (l.take (k + 1)).all isDig = ((l.take k).all isDig && isDig x) ∧ valN 0 (l.take (k + 1)) = valN 0 (l.take k) * 10 + (x.toNat - 48) := by
  have e : l.take (k + 1) = l.take k ++ [x] := by rw [List.take_add_one, hx]; rfl
  rw [e, valN_snoc, List.all_append]
  simp
theorem nd_of {l : List UInt8} {k : Nat} {x : UInt8} (hx : l[k]? = some x) (h : isDig x = false) : l.all isDig = false := by
  rw [Bool.eq_false_iff]
  intro ha
  have := (List.all_eq_true.1 ha) x (List.mem_of_getElem? hx)
  rw [h] at this
  cases this

set_option maxHeartbeats 1600000 in
set_option maxRecDepth 100000 in
theorem l01Number_calls (s : ByteArray) (w : World) (hs : s.size ≤ 1048576) : Calls Tryz.prog 173 #[.string s] w fun e w' => e = .returned (numR (numS s.data.toList)) ∧ w = w' := by
  have hs63 : (s.size : Int) ≤ 1048576 := by omega
  by_cases h0 : s.size = 0
  · have hl0 : s.data.toList = [] := List.eq_nil_of_length_eq_zero (by rw [bsize]; exact h0)
    have hres : Hid (numS s.data.toList = none) := by show _ = _; rw [hl0]; rfl
    clear hl0
    go_enter Tryz.func173, Tryz.ntmps173
    go_wp2
    go_ret2
    exact ⟨by rw [hres.out]; rfl, rfl⟩
  have hpos : 0 < s.size := by omega
  have hposI : (0 : Int) < (s.size : Int) := by omega
  have hg0 := bget s 0 hpos
  have hh0 : s.data.toList.head? = some s[0] := by rw [List.head?_eq_getElem?]; exact hg0
  by_cases hneg : s[0] = 45
  · have hc0 : ∀ h : 0 < s.size, (s[0].toNat : Int) = 45 := fun _ => by rw [hneg]; rfl
    have hN : Hid (numS s.data.toList = numNeg (s.data.toList.drop 1)) := by
      show _ = _
      unfold numS
      rw [hh0, hneg, if_pos rfl, ← List.drop_one]
    clear hh0 hg0 hneg
    by_cases h1 : s.size = 1
    · have hres : Hid (numS s.data.toList = none) := by
        show _ = _
        rw [hN.out, List.drop_of_length_le (by rw [bsize]; omega)]
        rfl
      have h1I : (s.size : Int) = 1 := by omega
      clear hN
      go_enter Tryz.func173, Tryz.ntmps173
      go_wp2
      go_ret2
      exact ⟨by rw [hres.out]; rfl, rfl⟩
    have h1I : ((s.size : Int) == 1) = false := by rw [beq_eq_false_iff_ne]; omega
    by_cases h18 : s.size ≤ 19
    · have h18I : ¬ (18 : Int) < (s.size : Int) - 1 := by omega
      have h1lt : 1 < s.size := by omega
      have h1ltI : (1 : Int) < (s.size : Int) := by omega
      have hg1 : (s.data.toList.drop 1).head? = some s[1] := by rw [List.head?_eq_getElem?, List.getElem?_drop]; exact bget s 1 h1lt
      by_cases hz : s[1] = 48
      · have hres : Hid (numS s.data.toList = none) := by show _ = _; rw [hN.out, numNeg_zero (by rw [hg1, hz])]
        have hc1 : ∀ h : 1 < s.size, (s[1].toNat : Int) = 48 := fun _ => by rw [hz]; rfl
        clear hN hg1 hz
        go_enter Tryz.func173, Tryz.ntmps173
        go_wp2
        go_ret2
        exact ⟨by rw [hres.out]; rfl, rfl⟩
      have hz2 : Hid ((s.data.toList.drop 1).head? ≠ some 48) := by show _ ≠ _; rw [hg1]; exact fun e => hz (Option.some.inj e)
      have hne : (s[1].toNat : Int) ≠ 48 := fun h => hz (UInt8.toNat_inj.1 (by simpa using (by omega : s[1].toNat = 48)))
      generalize hc : (s[1].toNat : Int) = c1 at *
      have hget1 : ∀ h : 1 < s.size, (s[1].toNat : Int) = c1 := fun _ => hc
      have hcb : (c1 == 48) = false := by rw [beq_eq_false_iff_ne]; exact hne
      clear hg1 hz hc hne
      go_enter Tryz.func173, Tryz.ntmps173
      go_wp2
      go_loop [5, 6] (fun n i => ∃ k v : Nat, 1 ≤ k ∧ k ≤ s.size ∧ i = .int .i64 (k : Nat) ∧ n = .int .i64 (v : Nat) ∧ v ≤ 1000000000000000000 ∧ Hid (v = valN 0 ((s.data.toList.drop 1).take (k - 1))) ∧ Hid (((s.data.toList.drop 1).take (k - 1)).all isDig = true)) (fun _ i => s.size - (intOf i).toNat)
      case atStart => exact ⟨1, 0, Nat.le_refl _, by omega, rfl, rfl, by omega, rfl, rfl⟩
      case round =>
        obtain ⟨k, v, hak, hk, rfl, rfl, hv18, hv, hd⟩ := hrel
        by_cases hlt : k < s.size
        · have hg : (s.data.toList.drop 1)[k - 1]? = some s[k] := by rw [List.getElem?_drop, show 1 + (k - 1) = k by omega]; exact bget s k hlt
          have hstep := take_dig hg
          have hdB := isDig_B s[k]
          have hq := fun W => l01Digit_calls (s[k].toNat : Int) W
          rw [← hdB] at hq
          by_cases hdig : isDig s[k] = true
          · rw [hdig] at hq
            have hx : 48 ≤ s[k].toNat ∧ s[k].toNat ≤ 57 := by simpa [isDig] using hdig
            have hlt17 : v < 100000000000000000 := by
              have h1 := valN_lt _ 0 0 hd.out (by decide)
              rw [← hv.out, List.length_take, List.length_drop, bsize] at h1
              have h2 : (10 : Nat) ^ (0 + min (k - 1) (s.size - 1)) ≤ 10 ^ 17 := Nat.pow_le_pow_right (by decide) (by omega)
              have h3 : (10 : Nat) ^ 17 = 100000000000000000 := by decide
              omega
            have hv2 : Hid (v * 10 + (s[k].toNat - 48) = valN 0 ((s.data.toList.drop 1).take (k + 1 - 1))) := by
              show _ = _
              rw [show k + 1 - 1 = (k - 1) + 1 by omega, hstep.2, ← hv.out]
            have hd2 : Hid (((s.data.toList.drop 1).take (k + 1 - 1)).all isDig = true) := by
              show _ = _
              rw [show k + 1 - 1 = (k - 1) + 1 by omega, hstep.1, hd.out, hdig]
              rfl
            replace hq := hide hq
            clear hg hstep hdB hdig hv hd
            generalize hxn : s[k].toNat = x at *
            have hgetk : ∀ h : k < s.size, (s[k].toNat : Int) = (x : Int) := fun _ => by rw [hxn]
            have hx1 : (48 : Int) ≤ (x : Int) := by omega
            have hx2 : (x : Int) ≤ 57 := by omega
            have hv17 : (v : Int) < 100000000000000000 := by omega
            clear hxn hx
            go_wp2_with (first | (go_at_call 194; (with_reducible refine (hq.out _).mono ?_); rintro e w' ⟨rfl, rfl⟩))
            go_round
            case rel => exact ⟨k + 1, v * 10 + (x - 48), by omega, by omega, by go_num, by go_num, by omega, hv2, hd2⟩
            case measure => simp [intOf]; omega
          · replace hdig := Bool.eq_false_iff.2 hdig
            rw [hdig] at hq
            have hres : Hid (numS s.data.toList = none) := by show _ = _; rw [hN.out, numNeg_nd (nd_of hg hdig)]
            replace hq := hide hq
            clear hg hstep hdB hdig hv hd
            generalize hxn : (s[k].toNat : Int) = x at *
            have hgetk : ∀ h : k < s.size, (s[k].toNat : Int) = x := fun _ => hxn
            go_wp2_with (first | (go_at_call 194; (with_reducible refine (hq.out _).mono ?_); rintro e w' ⟨rfl, rfl⟩))
            go_ret2
            exact ⟨by rw [hres.out]; rfl, rfl⟩
        · have hkn : k = s.size := by omega
          subst hkn
          have hfull : (s.data.toList.drop 1).take (s.size - 1) = (s.data.toList.drop 1) := List.take_of_length_le (by rw [List.length_drop, bsize]; omega)
          have hres : Hid (numS s.data.toList = some (-(v : Int))) := by
            show _ = _
            have h1 := hv.out; have h2 := hd.out
            rw [hfull] at h1 h2
            rw [hN.out, h1]
            exact numNeg_ok (by intro e; have := congrArg List.length e; rw [List.length_drop, bsize, List.length_nil] at this; omega) (by rw [List.length_drop, bsize]; omega) hz2.out h2
          clear hv hd hfull
          go_wp2_with fail
          go_ret2
          exact ⟨by rw [hres.out]; rfl, rfl⟩

    · have hres : Hid (numS s.data.toList = none) := by show _ = _; rw [hN.out, numNeg_long (by rw [List.length_drop, bsize]; omega)]
      have h18I : (18 : Int) < (s.size : Int) - 1 := by omega
      clear hN
      go_enter Tryz.func173, Tryz.ntmps173
      go_wp2
      go_ret2
      exact ⟨by rw [hres.out]; rfl, rfl⟩
  · have hN : Hid (numS s.data.toList = numPos (s.data.toList.drop 0)) := by
      show _ = _
      unfold numS
      rw [hh0, if_neg (fun e => hneg (Option.some.inj e)), List.drop_zero]
    have hne : (s[0].toNat : Int) ≠ 45 := fun h => hneg (UInt8.toNat_inj.1 (by simpa using (by omega : s[0].toNat = 45)))
    have hzb : ((s.size : Int) == 0) = false := by rw [beq_eq_false_iff_ne]; omega
    by_cases h18 : s.size ≤ 18
    · have h18I : ¬ (18 : Int) < (s.size : Int) := by omega
      by_cases hz : s[0] = 48 ∧ 1 < s.size
      · have hres : Hid (numS s.data.toList = none) := by show _ = _; rw [hN.out, List.drop_zero, numPos_zero (by rw [hh0, hz.1]) (by rw [bsize]; exact hz.2)]
        have hc1 : ∀ h : 0 < s.size, (s[0].toNat : Int) = 48 := fun _ => by rw [hz.1]; rfl
        have h1I : (1 : Int) < (s.size : Int) := by omega
        clear hN hh0 hg0 hneg hz hne
        go_enter Tryz.func173, Tryz.ntmps173
        go_wp2
        go_ret2
        exact ⟨by rw [hres.out]; rfl, rfl⟩
      have hz2 : Hid (¬ ((s.data.toList.drop 0).head? = some 48 ∧ 1 < (s.data.toList.drop 0).length)) := by
        show ¬ _
        rw [List.drop_zero, hh0, bsize]
        exact fun e => hz ⟨Option.some.inj e.1, e.2⟩
      have hz3 : (s[0].toNat : Int) ≠ 48 ∨ ¬ (1 : Int) < (s.size : Int) := by
        by_cases h : s[0] = 48
        · right
          intro h2
          exact hz ⟨h, by omega⟩
        · exact .inl fun h2 => h (UInt8.toNat_inj.1 (by simpa using (by omega : s[0].toNat = 48)))
      generalize hc : (s[0].toNat : Int) = c0 at *
      have hget0 : ∀ h : 0 < s.size, (s[0].toNat : Int) = c0 := fun _ => hc
      have hcb : (c0 == 45) = false := by rw [beq_eq_false_iff_ne]; exact hne
      clear hh0 hg0 hneg hz hc hne
      rcases hz3 with hz4 | hz4
      · have hcb2 : (c0 == 48) = false := by rw [beq_eq_false_iff_ne]; exact hz4
        clear hz4
        go_enter Tryz.func173, Tryz.ntmps173
        go_wp2
        go_loop [5, 6] (fun n i => ∃ k v : Nat, 0 ≤ k ∧ k ≤ s.size ∧ i = .int .i64 (k : Nat) ∧ n = .int .i64 (v : Nat) ∧ v ≤ 1000000000000000000 ∧ Hid (v = valN 0 ((s.data.toList.drop 0).take (k - 0))) ∧ Hid (((s.data.toList.drop 0).take (k - 0)).all isDig = true)) (fun _ i => s.size - (intOf i).toNat)
        case atStart => exact ⟨0, 0, Nat.le_refl _, by omega, rfl, rfl, by omega, rfl, rfl⟩
        case round =>
          obtain ⟨k, v, hak, hk, rfl, rfl, hv18, hv, hd⟩ := hrel
          by_cases hlt : k < s.size
          · have hg : (s.data.toList.drop 0)[k - 0]? = some s[k] := by rw [List.getElem?_drop, show 0 + (k - 0) = k by omega]; exact bget s k hlt
            have hstep := take_dig hg
            have hdB := isDig_B s[k]
            have hq := fun W => l01Digit_calls (s[k].toNat : Int) W
            rw [← hdB] at hq
            by_cases hdig : isDig s[k] = true
            · rw [hdig] at hq
              have hx : 48 ≤ s[k].toNat ∧ s[k].toNat ≤ 57 := by simpa [isDig] using hdig
              have hlt17 : v < 100000000000000000 := by
                have h1 := valN_lt _ 0 0 hd.out (by decide)
                rw [← hv.out, List.length_take, List.length_drop, bsize] at h1
                have h2 : (10 : Nat) ^ (0 + min (k - 0) (s.size - 0)) ≤ 10 ^ 17 := Nat.pow_le_pow_right (by decide) (by omega)
                have h3 : (10 : Nat) ^ 17 = 100000000000000000 := by decide
                omega
              have hv2 : Hid (v * 10 + (s[k].toNat - 48) = valN 0 ((s.data.toList.drop 0).take (k + 1 - 0))) := by
                show _ = _
                rw [show k + 1 - 0 = (k - 0) + 1 by omega, hstep.2, ← hv.out]
              have hd2 : Hid (((s.data.toList.drop 0).take (k + 1 - 0)).all isDig = true) := by
                show _ = _
                rw [show k + 1 - 0 = (k - 0) + 1 by omega, hstep.1, hd.out, hdig]
                rfl
              replace hq := hide hq
              clear hg hstep hdB hdig hv hd
              generalize hxn : s[k].toNat = x at *
              have hgetk : ∀ h : k < s.size, (s[k].toNat : Int) = (x : Int) := fun _ => by rw [hxn]
              have hx1 : (48 : Int) ≤ (x : Int) := by omega
              have hx2 : (x : Int) ≤ 57 := by omega
              have hv17 : (v : Int) < 100000000000000000 := by omega
              clear hxn hx
              go_wp2_with (first | (go_at_call 194; (with_reducible refine (hq.out _).mono ?_); rintro e w' ⟨rfl, rfl⟩))
              go_round
              case rel => exact ⟨k + 1, v * 10 + (x - 48), by omega, by omega, by go_num, by go_num, by omega, hv2, hd2⟩
              case measure => simp [intOf]; omega
            · replace hdig := Bool.eq_false_iff.2 hdig
              rw [hdig] at hq
              have hres : Hid (numS s.data.toList = none) := by show _ = _; rw [hN.out, numPos_nd (nd_of hg hdig)]
              replace hq := hide hq
              clear hg hstep hdB hdig hv hd
              generalize hxn : (s[k].toNat : Int) = x at *
              have hgetk : ∀ h : k < s.size, (s[k].toNat : Int) = x := fun _ => hxn
              go_wp2_with (first | (go_at_call 194; (with_reducible refine (hq.out _).mono ?_); rintro e w' ⟨rfl, rfl⟩))
              go_ret2
              exact ⟨by rw [hres.out]; rfl, rfl⟩
          · have hkn : k = s.size := by omega
            subst hkn
            have hfull : (s.data.toList.drop 0).take (s.size - 0) = (s.data.toList.drop 0) := List.take_of_length_le (by rw [List.length_drop, bsize]; omega)
            have hres : Hid (numS s.data.toList = some ((v : Int))) := by
              show _ = _
              have h1 := hv.out; have h2 := hd.out
              rw [hfull] at h1 h2
              rw [hN.out, h1]
              exact numPos_ok (by intro e; have := congrArg List.length e; rw [List.length_drop, bsize, List.length_nil] at this; omega) (by rw [List.length_drop, bsize]; omega) hz2.out h2
            clear hv hd hfull
            go_wp2_with fail
            go_ret2
            exact ⟨by rw [hres.out]; rfl, rfl⟩

      · have h1s : ¬ 1 < s.size := by omega
        by_cases hcb3 : c0 = 48
        · subst hcb3
          go_enter Tryz.func173, Tryz.ntmps173
          go_wp2
          go_loop [5, 6] (fun n i => ∃ k v : Nat, 0 ≤ k ∧ k ≤ s.size ∧ i = .int .i64 (k : Nat) ∧ n = .int .i64 (v : Nat) ∧ v ≤ 1000000000000000000 ∧ Hid (v = valN 0 ((s.data.toList.drop 0).take (k - 0))) ∧ Hid (((s.data.toList.drop 0).take (k - 0)).all isDig = true)) (fun _ i => s.size - (intOf i).toNat)
          case atStart => exact ⟨0, 0, Nat.le_refl _, by omega, rfl, rfl, by omega, rfl, rfl⟩
          case round =>
            obtain ⟨k, v, hak, hk, rfl, rfl, hv18, hv, hd⟩ := hrel
            by_cases hlt : k < s.size
            · have hg : (s.data.toList.drop 0)[k - 0]? = some s[k] := by rw [List.getElem?_drop, show 0 + (k - 0) = k by omega]; exact bget s k hlt
              have hstep := take_dig hg
              have hdB := isDig_B s[k]
              have hq := fun W => l01Digit_calls (s[k].toNat : Int) W
              rw [← hdB] at hq
              by_cases hdig : isDig s[k] = true
              · rw [hdig] at hq
                have hx : 48 ≤ s[k].toNat ∧ s[k].toNat ≤ 57 := by simpa [isDig] using hdig
                have hlt17 : v < 100000000000000000 := by
                  have h1 := valN_lt _ 0 0 hd.out (by decide)
                  rw [← hv.out, List.length_take, List.length_drop, bsize] at h1
                  have h2 : (10 : Nat) ^ (0 + min (k - 0) (s.size - 0)) ≤ 10 ^ 17 := Nat.pow_le_pow_right (by decide) (by omega)
                  have h3 : (10 : Nat) ^ 17 = 100000000000000000 := by decide
                  omega
                have hv2 : Hid (v * 10 + (s[k].toNat - 48) = valN 0 ((s.data.toList.drop 0).take (k + 1 - 0))) := by
                  show _ = _
                  rw [show k + 1 - 0 = (k - 0) + 1 by omega, hstep.2, ← hv.out]
                have hd2 : Hid (((s.data.toList.drop 0).take (k + 1 - 0)).all isDig = true) := by
                  show _ = _
                  rw [show k + 1 - 0 = (k - 0) + 1 by omega, hstep.1, hd.out, hdig]
                  rfl
                replace hq := hide hq
                clear hg hstep hdB hdig hv hd
                generalize hxn : s[k].toNat = x at *
                have hgetk : ∀ h : k < s.size, (s[k].toNat : Int) = (x : Int) := fun _ => by rw [hxn]
                have hx1 : (48 : Int) ≤ (x : Int) := by omega
                have hx2 : (x : Int) ≤ 57 := by omega
                have hv17 : (v : Int) < 100000000000000000 := by omega
                clear hxn hx
                go_wp2_with (first | (go_at_call 194; (with_reducible refine (hq.out _).mono ?_); rintro e w' ⟨rfl, rfl⟩))
                go_round
                case rel => exact ⟨k + 1, v * 10 + (x - 48), by omega, by omega, by go_num, by go_num, by omega, hv2, hd2⟩
                case measure => simp [intOf]; omega
              · replace hdig := Bool.eq_false_iff.2 hdig
                rw [hdig] at hq
                have hres : Hid (numS s.data.toList = none) := by show _ = _; rw [hN.out, numPos_nd (nd_of hg hdig)]
                replace hq := hide hq
                clear hg hstep hdB hdig hv hd
                generalize hxn : (s[k].toNat : Int) = x at *
                have hgetk : ∀ h : k < s.size, (s[k].toNat : Int) = x := fun _ => hxn
                go_wp2_with (first | (go_at_call 194; (with_reducible refine (hq.out _).mono ?_); rintro e w' ⟨rfl, rfl⟩))
                go_ret2
                exact ⟨by rw [hres.out]; rfl, rfl⟩
            · have hkn : k = s.size := by omega
              subst hkn
              have hfull : (s.data.toList.drop 0).take (s.size - 0) = (s.data.toList.drop 0) := List.take_of_length_le (by rw [List.length_drop, bsize]; omega)
              have hres : Hid (numS s.data.toList = some ((v : Int))) := by
                show _ = _
                have h1 := hv.out; have h2 := hd.out
                rw [hfull] at h1 h2
                rw [hN.out, h1]
                exact numPos_ok (by intro e; have := congrArg List.length e; rw [List.length_drop, bsize, List.length_nil] at this; omega) (by rw [List.length_drop, bsize]; omega) hz2.out h2
              clear hv hd hfull
              go_wp2_with fail
              go_ret2
              exact ⟨by rw [hres.out]; rfl, rfl⟩

        · have hcb2 : (c0 == 48) = false := by rw [beq_eq_false_iff_ne]; exact hcb3
          clear hcb3
          go_enter Tryz.func173, Tryz.ntmps173
          go_wp2
          go_loop [5, 6] (fun n i => ∃ k v : Nat, 0 ≤ k ∧ k ≤ s.size ∧ i = .int .i64 (k : Nat) ∧ n = .int .i64 (v : Nat) ∧ v ≤ 1000000000000000000 ∧ Hid (v = valN 0 ((s.data.toList.drop 0).take (k - 0))) ∧ Hid (((s.data.toList.drop 0).take (k - 0)).all isDig = true)) (fun _ i => s.size - (intOf i).toNat)
          case atStart => exact ⟨0, 0, Nat.le_refl _, by omega, rfl, rfl, by omega, rfl, rfl⟩
          case round =>
            obtain ⟨k, v, hak, hk, rfl, rfl, hv18, hv, hd⟩ := hrel
            by_cases hlt : k < s.size
            · have hg : (s.data.toList.drop 0)[k - 0]? = some s[k] := by rw [List.getElem?_drop, show 0 + (k - 0) = k by omega]; exact bget s k hlt
              have hstep := take_dig hg
              have hdB := isDig_B s[k]
              have hq := fun W => l01Digit_calls (s[k].toNat : Int) W
              rw [← hdB] at hq
              by_cases hdig : isDig s[k] = true
              · rw [hdig] at hq
                have hx : 48 ≤ s[k].toNat ∧ s[k].toNat ≤ 57 := by simpa [isDig] using hdig
                have hlt17 : v < 100000000000000000 := by
                  have h1 := valN_lt _ 0 0 hd.out (by decide)
                  rw [← hv.out, List.length_take, List.length_drop, bsize] at h1
                  have h2 : (10 : Nat) ^ (0 + min (k - 0) (s.size - 0)) ≤ 10 ^ 17 := Nat.pow_le_pow_right (by decide) (by omega)
                  have h3 : (10 : Nat) ^ 17 = 100000000000000000 := by decide
                  omega
                have hv2 : Hid (v * 10 + (s[k].toNat - 48) = valN 0 ((s.data.toList.drop 0).take (k + 1 - 0))) := by
                  show _ = _
                  rw [show k + 1 - 0 = (k - 0) + 1 by omega, hstep.2, ← hv.out]
                have hd2 : Hid (((s.data.toList.drop 0).take (k + 1 - 0)).all isDig = true) := by
                  show _ = _
                  rw [show k + 1 - 0 = (k - 0) + 1 by omega, hstep.1, hd.out, hdig]
                  rfl
                replace hq := hide hq
                clear hg hstep hdB hdig hv hd
                generalize hxn : s[k].toNat = x at *
                have hgetk : ∀ h : k < s.size, (s[k].toNat : Int) = (x : Int) := fun _ => by rw [hxn]
                have hx1 : (48 : Int) ≤ (x : Int) := by omega
                have hx2 : (x : Int) ≤ 57 := by omega
                have hv17 : (v : Int) < 100000000000000000 := by omega
                clear hxn hx
                go_wp2_with (first | (go_at_call 194; (with_reducible refine (hq.out _).mono ?_); rintro e w' ⟨rfl, rfl⟩))
                go_round
                case rel => exact ⟨k + 1, v * 10 + (x - 48), by omega, by omega, by go_num, by go_num, by omega, hv2, hd2⟩
                case measure => simp [intOf]; omega
              · replace hdig := Bool.eq_false_iff.2 hdig
                rw [hdig] at hq
                have hres : Hid (numS s.data.toList = none) := by show _ = _; rw [hN.out, numPos_nd (nd_of hg hdig)]
                replace hq := hide hq
                clear hg hstep hdB hdig hv hd
                generalize hxn : (s[k].toNat : Int) = x at *
                have hgetk : ∀ h : k < s.size, (s[k].toNat : Int) = x := fun _ => hxn
                go_wp2_with (first | (go_at_call 194; (with_reducible refine (hq.out _).mono ?_); rintro e w' ⟨rfl, rfl⟩))
                go_ret2
                exact ⟨by rw [hres.out]; rfl, rfl⟩
            · have hkn : k = s.size := by omega
              subst hkn
              have hfull : (s.data.toList.drop 0).take (s.size - 0) = (s.data.toList.drop 0) := List.take_of_length_le (by rw [List.length_drop, bsize]; omega)
              have hres : Hid (numS s.data.toList = some ((v : Int))) := by
                show _ = _
                have h1 := hv.out; have h2 := hd.out
                rw [hfull] at h1 h2
                rw [hN.out, h1]
                exact numPos_ok (by intro e; have := congrArg List.length e; rw [List.length_drop, bsize, List.length_nil] at this; omega) (by rw [List.length_drop, bsize]; omega) hz2.out h2
              clear hv hd hfull
              go_wp2_with fail
              go_ret2
              exact ⟨by rw [hres.out]; rfl, rfl⟩

    · have hres : Hid (numS s.data.toList = none) := by show _ = _; rw [hN.out, numPos_long (by rw [List.length_drop, bsize]; omega)]
      have h18I : (18 : Int) < (s.size : Int) := by omega
      generalize hc : (s[0].toNat : Int) = c0 at *
      have hget0 : ∀ h : 0 < s.size, (s[0].toNat : Int) = c0 := fun _ => hc
      have hcb : (c0 == 45) = false := by rw [beq_eq_false_iff_ne]; exact hne
      clear hh0 hg0 hneg hc hne hN
      go_enter Tryz.func173, Tryz.ntmps173
      go_wp2
      go_ret2
      exact ⟨by rw [hres.out]; rfl, rfl⟩

end Go.Proofs.YtanlgnjgpbjebaaGreatDoor

namespace Go.Proofs.YtanlgnjgpbjebaaGreatDoor
open Go.ChangeShapes Go.WideShapes Go.ChangeAt Go.RowKit
set_option linter.unusedVariables false

theorem run_sub (s : ByteArray) (a b : Nat) (h1 : a ≤ b) (h2 : b ≤ s.size) (W : World) :
    (Instr.slice 9 (.string s) (some (.int .i64 (a : Int))) (some (.int .i64 (b : Int))) none).run Tryz.prog W = .ok (.string (s.extract a b)) W := by
  have e1 : (a : Int) ≤ (b : Int) := by omega
  have e2 : (b : Int) ≤ (s.size : Int) := by omega
  simp [Instr.slice, run_underlying Tryz.underlying9, Instr.sliceBounds, run_sliceBound, e1, e2]

def nameL (l : List UInt8) : Bool := nameB (mkB l)
/-- Labels, by the reference. -/
def labS (s : ByteArray) : Bool := (valsS nameL s.data.toList).isSome
theorem nameL_data (s : ByteArray) : nameL s.data.toList = nameB s := by unfold nameL mkB; rw [bytes_eta]
def actB (s : ByteArray) : Bool := nameB s && !(decide (s = tauB))
theorem mkB_inj {a b : List UInt8} (h : mkB a = mkB b) : a = b := by
  have := congrArg (fun s : ByteArray => s.data.toList) h
  simpa [mkB] using this
theorem tau_list : tauB.toList = [116, 97, 117] := ByteArray.toList_mk _
theorem tau_ne {s : ByteArray} (h : s ≠ tauB) : (s.toList == [116, 97, 117]) = false := by rw [← tau_list]; exact str_neq h

theorem l01Action_calls (s : ByteArray) (w : World) (hs : s.size ≤ 1048576) : Calls Tryz.prog 154 #[.string s] w fun e w' => e = .returned (.bool (actB s)) ∧ w = w' := by
  have q := l01Name_calls s w (by unfold maxLen; omega)
  by_cases hn : nameB s = true
  · rw [hn] at q
    replace q := hide q
    by_cases ht : s = tauB
    · have hv : Hid (actB s = false) := by show _ = _; unfold actB; simp [ht]
      subst ht
      clear hn
      go_enter Tryz.func154, Tryz.ntmps154
      go_wp2_with (first | (go_at_call 170; (with_reducible refine q.out.mono ?_); rintro e w1 ⟨rfl, rfl⟩))
      go_ret
      exact ⟨ret_b (by rw [hv.out, tau_list]; rfl), rfl⟩
    · have hv : Hid (actB s = true) := by show _ = _; unfold actB; simp [ht, hn]
      have hne := tau_ne ht
      clear hn ht
      go_enter Tryz.func154, Tryz.ntmps154
      go_wp2_with (first | (go_at_call 170; (with_reducible refine q.out.mono ?_); rintro e w1 ⟨rfl, rfl⟩))
      go_ret
      exact ⟨ret_b (by rw [hv.out]), rfl⟩
  · replace hn := Bool.eq_false_iff.2 hn
    have hv : Hid (actB s = false) := by show _ = _; unfold actB; rw [hn]; rfl
    rw [hn] at q
    replace q := hide q
    clear hn
    go_enter Tryz.func154, Tryz.ntmps154
    go_wp2_with (first | (go_at_call 170; (with_reducible refine q.out.mono ?_); rintro e w1 ⟨rfl, rfl⟩))
    go_ret
    exact ⟨ret_b (by rw [hv.out]), rfl⟩

theorem numsOf_none {f : List UInt8 → Option Int} : ∀ {l : List (List UInt8)} {k : Nat} {x : List UInt8}, l[k]? = some x → f x = none → numsOf f l = none
  | [], k, x, h, _ => by simp at h
  | y :: l, 0, x, h, hf => by
    simp at h
    subst h
    unfold numsOf
    rw [hf]
  | y :: l, k + 1, x, h, hf => by
    unfold numsOf
    rw [numsOf_none (l := l) (k := k) (by simpa using h) hf]
    split
    · rename_i h1; cases h1
    · rfl
theorem numsOf_some {f : List UInt8 → Option Int} : ∀ {l : List (List UInt8)}, (∀ (k : Nat) x, l[k]? = some x → (f x).isSome = true) → (numsOf f l).isSome = true
  | [], _ => rfl
  | y :: l, h => by
    have h1 := h 0 y rfl
    have h2 := numsOf_some (l := l) (f := f) (fun k x hx => h (k + 1) x (by simpa using hx))
    unfold numsOf
    cases hy : f y with
    | none => rw [hy] at h1; cases h1
    | some n =>
      cases hl : numsOf f l with
      | none => rw [hl] at h2; cases h2
      | some ns => rfl
theorem numV_in {l : List UInt8} {v : Int} (h : numS l = some v) : (numV l).isSome = inB v 0 63 := by
  unfold numV
  rw [h]
  have : isVal v = inB v 0 63 := rfl
  rw [← this]
  cases hv : isVal v <;> simp [Option.filter, hv]
theorem splitC_mem_len (c : UInt8) : ∀ (l x : List UInt8), x ∈ splitC c l → x.length ≤ l.length
  | [], x, h => by simp [splitC] at h; subst h; simp
  | y :: l, x, h => by
    have ih := splitC_mem_len c l
    by_cases hy : y = c
    · subst hy
      rw [splitC_ceq, List.mem_cons] at h
      rcases h with rfl | h
      · simp
      · have := ih x h
        simp only [List.length_cons]
        omega
    · rw [splitC_cne hy, List.mem_cons] at h
      obtain ⟨p, ps, hp⟩ := List.exists_cons_of_ne_nil (splitC_ne c l)
      rw [hp] at h ih
      simp only [List.headD_cons, List.tail_cons] at h
      rcases h with rfl | h
      · have := ih p (by simp)
        simp only [List.length_cons]
        omega
      · have := ih x (List.mem_cons_of_mem _ h)
        simp only [List.length_cons]
        omega
theorem elem_int : Elem Tryz.prog 46 2 1 8 := Elem.of Tryz.underlying46 info_int64 rfl (by decide) (by decide)

/-- What the tests of a label with a bracket see. -/
theorem open_hit {s : ByteArray} {a b : List UInt8} (h : s.data.toList = a ++ 40 :: b) (hn : (40 : UInt8) ∉ a) : openN s = a.length := by
  unfold openN
  rw [h]
  refine takeWhile_hit (fun j x hj hx => ?_) (by rw [List.getElem?_append_right (Nat.le_refl _)]; simp)
  rw [List.getElem?_append_left hj] at hx
  rintro rfl
  exact hn (List.mem_of_getElem? hx)
theorem open_miss {s : ByteArray} (hn : (40 : UInt8) ∉ s.data.toList) : openN s = s.size := by
  unfold openN
  rw [takeWhile_all (fun j x hx => by rintro rfl; exact hn (List.mem_of_getElem? hx)), bsize]
theorem labS_miss {s : ByteArray} (hn : (40 : UInt8) ∉ s.data.toList) : labS s = nameB s := by
  unfold labS valsS
  rw [if_pos hn, nameL_data]
  cases nameB s <;> rfl
theorem labS_hit {s : ByteArray} {a b : List UInt8} (h : s.data.toList = a ++ 40 :: b) (hn : (40 : UInt8) ∉ a) :
    labS s = ((actB (mkB a) && ((40 :: b).getLast? == some 41)) && ((numsOf numV (splitC 44 b.dropLast)).filter (fun ns => decide (ns.length ≤ 2))).isSome) := by
  unfold labS valsS labName
  rw [h, if_neg (by simp), cut_hit hn]
  have hlast : (a ++ 40 :: b).getLast? = (40 :: b).getLast? := by
    rw [List.getLast?_append]
    cases hh : (40 :: b).getLast? with
    | none => exact absurd (List.getLast?_eq_none_iff.1 hh) (by simp)
    | some x => rfl
  rw [hlast]
  have hact : (nameL a && !(a == tauL)) = actB (mkB a) := by
    unfold actB nameL
    congr 2
    by_cases h : a = tauL
    · subst h
      rw [decide_eq_true (show mkB tauL = tauB from rfl)]
      simp
    · have h2 : ¬ mkB a = tauB := fun e => h (mkB_inj e)
      rw [decide_eq_false h2, beq_eq_false_iff_ne]
      exact h
  simp only [hact]
  cases hc : (actB (mkB a) && ((40 :: b).getLast? == some 41)) <;> simp
theorem last_at {s : ByteArray} {a b : List UInt8} {z : Nat} (h : s.data.toList = a ++ 40 :: b) (hz : s.size = z + 1) (hlt : z < s.size) : (40 :: b).getLast? = some s[z] := by
  have h1 := bget s z hlt
  have hl : z + 1 = a.length + (b.length + 1) := by
    have := congrArg List.length h
    rw [bsize, List.length_append, List.length_cons] at this
    omega
  rw [h, List.getElem?_append_right (by omega)] at h1
  rw [List.getLast?_eq_getElem?, ← h1]
  congr 1
  simp only [List.length_cons]
  omega
theorem mid_at {s : ByteArray} {a b : List UInt8} {z : Nat} (h : s.data.toList = a ++ 40 :: b) (hz : s.size = z + 1) : s.extract (a.length + 1) z = mkB b.dropLast ∧ s.extract 0 a.length = mkB a := by
  have hl : z + 1 = a.length + (b.length + 1) := by
    have := congrArg List.length h
    rw [bsize, List.length_append, List.length_cons] at this
    omega
  refine ⟨?_, ?_⟩
  · rw [extract_mk, h]
    congr 1
    have e1 : (a ++ 40 :: b).drop (a.length + 1) = b := by
      rw [show a.length + 1 = (a ++ [40]).length by simp, show a ++ 40 :: b = (a ++ [40]) ++ b by simp, List.drop_left]
    rw [e1, List.dropLast_eq_take]
    congr 1
    omega
  · rw [extract_mk, h, List.drop_zero, Nat.sub_zero, List.take_left]

set_option maxHeartbeats 1600000 in
set_option maxRecDepth 100000 in
theorem l01Values_calls (s : ByteArray) (w : World) (hs : s.size ≤ 1048576) : Calls Tryz.prog 155 #[.string s] w fun e w' => ∃ A n c, e = .returned (.tuple #[.slice A n c, .bool (labS s)]) ∧ Below w.heap.size w w' := by
  have q0 := l01Open_calls s w hs
  by_cases hm : (40 : UInt8) ∈ s.data.toList
  · obtain ⟨a, b, hl, hn⟩ := split_at 40 _ hm
    obtain ⟨z, hz⟩ : ∃ z, s.size = z + 1 := ⟨s.size - 1, by have := congrArg List.length hl; rw [bsize, List.length_append, List.length_cons] at this; omega⟩
    have hzlt : z < s.size := by omega
    have hlen : s.size = a.length + (b.length + 1) := by
      have := congrArg List.length hl
      rw [bsize, List.length_append, List.length_cons] at this
      exact this
    have hlast := last_at hl hz hzlt
    obtain ⟨hmid, hfront⟩ := mid_at hl hz
    have hlab := labS_hit hl hn
    rw [hlast] at hlab
    rw [open_hit hl hn] at q0
    have q1 : ∀ W, Calls Tryz.prog 154 #[.string (s.extract 0 a.length)] W (fun e w' => e = .returned (.bool (actB (mkB a))) ∧ W = w') := fun W => by
      have := l01Action_calls (s.extract 0 a.length) W (by rw [hfront, mkB_size]; omega)
      rw [show actB (s.extract 0 a.length) = actB (mkB a) from by rw [hfront]] at this
      exact this
    have q2 : ∀ W, Calls Tryz.prog 172 #[.string (s.extract (a.length + 1) z), .int .u8 44] W (fun e w' => ∃ A n c, e = .returned (.slice A n c) ∧ n ≤ 1048577 ∧ SlS w' W.heap.size w'.heap.size A n ((splitC 44 b.dropLast).map mkB) ∧ Below W.heap.size W w') := fun W => by
      have := l01Split_calls (s.extract (a.length + 1) z) W (by rw [hmid, mkB_size, List.length_dropLast]; omega)
      rw [show piecesB 44 (s.extract (a.length + 1) z) = (splitC 44 b.dropLast).map mkB from by rw [hmid]; rfl] at this
      exact this
    have hmI : (a.length : Int) ≤ (s.size : Int) := by omega
    have hm0 : ((a.length : Int) == (s.size : Int)) = false := by rw [beq_eq_false_iff_ne]; omega
    have hzI : (s.size : Int) - 1 = (z : Int) := by omega
    have hamz : (a.length : Int) + 1 ≤ (z : Int) ∨ s[z] ≠ 41 := by
      rcases Nat.lt_or_ge a.length z with h1 | h1
      · exact .inl (by omega)
      · right
        have : a.length = z := by omega
        intro h2
        rw [h2] at hlast
        have hb : b = [] := List.eq_nil_of_length_eq_zero (by omega)
        rw [hb] at hlast
        simp at hlast
    have hplen := splitC_len 44 b.dropLast
    have hbl : b.length ≤ 1048576 := by omega
    rw [List.length_dropLast] at hplen
    replace q0 := hide q0
    replace q1 := hide q1
    replace q2 := hide q2
    replace hlab := hide hlab
    generalize hmm : a.length = m at *
    have hmz : m < s.size := by omega
    clear hm hl hlast hmid hfront hlen
    cases hact : actB (mkB a) with
    | false =>
      have hv : Hid (labS s = false) := by show _ = _; rw [hlab.out, hact]; rfl
      rw [hact] at q1
      clear hlab hact
      go_enter Tryz.func155, Tryz.ntmps155
      go_wp2_with (first | (go_at_call 171; (with_reducible refine q0.out.mono ?_); rintro e w1 ⟨rfl, rfl⟩) | (go_at_call 154; (with_reducible refine (q1.out _).mono ?_); rintro e w' ⟨rfl, rfl⟩))
      go_ret2
      exact ⟨none, 0, 0, by rw [hv.out]; rfl, Below.refl _ _⟩
    | true =>
      rw [hact] at q1
      have hE := hide elem_int
      by_cases h41 : s[z] = 41
      · have hv : Hid (labS s = ((numsOf numV (splitC 44 b.dropLast)).filter (fun ns => decide (ns.length ≤ 2))).isSome) := by
          show _ = _
          rw [hlab.out, hact, h41]
          rfl
        have hamI : (m : Int) + 1 ≤ (z : Int) := hamz.resolve_right (fun h => h h41)
        have hc : ∀ h : z < s.size, (s[z].toNat : Int) = 41 := fun _ => by rw [h41]; rfl
        have hsub : ∀ W, (Instr.slice 9 (.string s) (some (.int .i64 ((m : Int) + 1))) (some (.int .i64 (z : Int))) none).run Tryz.prog W = .ok (.string (s.extract (m + 1) z)) W := fun W => by
          have := run_sub s (m + 1) z (by omega) (by omega) W
          simpa using this
        clear hlab hact hamz h41 hz
        have hPs : Hid (∀ x ∈ splitC 44 b.dropLast, (mkB x).size ≤ 1048576) := fun x hx => by
          rw [mkB_size]
          have := splitC_mem_len 44 b.dropLast x hx
          rw [List.length_dropLast] at this
          omega
        generalize splitC 44 b.dropLast = P at *
        go_enter Tryz.func155, Tryz.ntmps155
        go_wp2_with (first | (go_at_call 171; (with_reducible refine q0.out.mono ?_); rintro e w1 ⟨rfl, rfl⟩) | (go_at_call 154; (with_reducible refine (q1.out _).mono ?_); rintro e w' ⟨rfl, rfl⟩) | fail)
        refine (q2.out _).mono ?_
        rintro e w2 ⟨A, n, c, rfl, hn1, hsl, hb2⟩
        have hPn : P.length = n := by have := hsl.len; rwa [List.length_map] at this
        replace hsl := hide hsl
        replace hPn := hide hPn
        have hzb := hb2.size
        go_wp2_with fail
        go_loopw [6, 7] (fun o i wr => ∃ (k : Nat) (A5 : Option Addr) (c5 : Nat) (L : List Int), k ≤ n ∧ o = .slice A5 k c5 ∧ i = .int .i64 (k : Nat) ∧ Hid (Own 1 iv wr w2.heap.size 2 A5 k c5 L) ∧ Hid (∀ j x, j < k → P[j]? = some x → (numV x).isSome = true) ∧ Below w2.heap.size w2 wr) (fun _ i _ => n - (intOf i).toNat)
        case atStart => exact ⟨0, _, _, [], Nat.zero_le _, rfl, rfl, Own.made w2 2 (Nat.le_refl _), fun j x h => absurd h (by omega), (Below.refl _ _).alloc (Nat.le_refl _) _⟩
        case round =>
          obtain ⟨k, A5, c5, L, hk, rfl, rfl, hown, hall, hb⟩ := hrel
          have hz2 := hb.size
          have hza : ∀ o, w2.heap.size ≤ (wr.alloc o).heap.size := fun o => by rw [World.size_alloc]; omega
          by_cases hlt : k < n
          · obtain ⟨bb, off, y, rfl, g1, g2, g3, hy, cc0, -⟩ := SlS.get hsl.out hlt
            replace cc0 := (hb.cell (p := ⟨bb, off + k, none⟩) g3).trans cc0
            rw [List.getElem?_map] at hy
            obtain ⟨x, hx, rfl⟩ := Option.map_eq_some_iff.1 hy
            have hxs : (mkB x).size ≤ 1048576 := by
              have h1 : x ∈ P := List.mem_of_getElem? hx
              exact hPs.out x h1
            have q3 := fun W => l01Number_calls (mkB x) W hxs
            rw [mkB_data] at q3
            cases hnx : numS x with
            | none =>
              have hv2 : Hid (labS s = false) := by
                show _ = _
                rw [hv.out, numsOf_none hx (by unfold numV; rw [hnx]; rfl)]
                rfl
              simp only [hnx] at q3
              have q4 : Hid (∀ W, Calls Tryz.prog 173 #[.string (mkB x)] W fun e w' => e = .returned (.tuple #[.int .i64 0, .bool false]) ∧ W = w') := q3
              clear hx hnx q3
              generalize mkB x = u at *
              go_wp2_with (first | (go_at_call 173; (with_reducible refine (q4.out _).mono ?_); rintro e w' ⟨rfl, rfl⟩))
              go_ret2
              exact ⟨none, 0, 0, by rw [hv2.out]; rfl, hb2.trans (hb.mono hb2.size)⟩
            | some v =>
              have hnv := numV_in hnx
              simp only [hnx] at q3
              have q4 : Hid (∀ W, Calls Tryz.prog 173 #[.string (mkB x)] W fun e w' => e = .returned (.tuple #[.int .i64 v, .bool true]) ∧ W = w') := q3
              have q5 := fun W => l00In_calls v 0 63 W
              cases hin : inB v 0 63 with
              | false =>
                have hv2 : Hid (labS s = false) := by
                  show _ = _
                  rw [hin] at hnv
                  rw [hv.out, numsOf_none hx (by cases h : numV x with | none => rfl | some y => rw [h] at hnv; cases hnv)]
                  rfl
                simp only [hin] at q5
                replace q5 := hide q5
                clear hx hnx q3 hin hnv
                generalize mkB x = u at *
                go_wp2_with (first | (go_at_call 173; (with_reducible refine (q4.out _).mono ?_); rintro e w' ⟨rfl, rfl⟩) | (go_at_call 79; (with_reducible refine (q5.out _).mono ?_); rintro e w' ⟨rfl, rfl⟩))
                go_ret2
                exact ⟨none, 0, 0, by rw [hv2.out]; rfl, hb2.trans (hb.mono hb2.size)⟩
              | true =>
                have hnext : Hid (∀ j x, j < k + 1 → P[j]? = some x → (numV x).isSome = true) := fun j y hj hyy => by
                  rcases Nat.lt_or_ge j k with h1 | h1
                  · exact hall.out j y h1 hyy
                  · have hjk : j = k := by omega
                    rw [hjk, hx] at hyy
                    have hxy := Option.some.inj hyy
                    rw [← hxy, hnv, hin]
                simp only [hin] at q5
                replace q5 := hide q5
                clear hx hnx q3 hin hnv
                generalize mkB x = u at *
                go_wp2_with (first | (go_at_call 173; (with_reducible refine (q4.out _).mono ?_); rintro e w' ⟨rfl, rfl⟩) | (go_at_call 79; (with_reducible refine (q5.out _).mono ?_); rintro e w' ⟨rfl, rfl⟩) | (at_builtin; (with_reducible refine wpList_app rfl (.tmp 62) (.tmp 64) rfl hE.out flat_iv rfl (hown.out.alloc _) rfl (Sl.lit1' wr 2 v _ rfl 1 _ ?c0) ?c1 (hza _) ?_); rotate_right; intro A7 c7 w7 hown7 hgr7 hb7 _))
                case c0 => rfl
                case c1 => omega
                go_roundw
                case rel => exact ⟨k + 1, A7, c7, L ++ [v], by omega, rfl, by go_num, hown7, hnext, (hb.alloc hz2 _).trans hb7⟩
                case measure => simp [intOf]; omega
          · have hkn : k = n := by omega
            subst hkn
            have hv2 : Hid (labS s = decide ((k : Int) ≤ 2)) := by
              show _ = _
              have h1 := numsOf_some (f := numV) (l := P) (fun j x hx => hall.out j x (by rw [← hPn.out]; exact (List.getElem?_eq_some_iff.1 hx).1) hx)
              obtain ⟨ns, hns⟩ := Option.isSome_iff_exists.1 h1
              have h2 := numsOf_len hns
              rw [hv.out, hns]
              rw [hPn.out] at h2
              by_cases h3 : k ≤ 2
              · have h4 : ns.length ≤ 2 := by omega
                have h5 : (k : Int) ≤ 2 := by omega
                simp [Option.filter, h4, h5]
              · have h4 : ¬ ns.length ≤ 2 := by omega
                have h5 : ¬ (k : Int) ≤ 2 := by omega
                simp [Option.filter, h4, h5]
            go_wp2_with fail
            go_ret2
            exact ⟨A5, k, c5, by rw [hv2.out]; rfl, hb2.trans (hb.mono hb2.size)⟩
      · have hv : Hid (labS s = false) := by
          show _ = _
          rw [hlab.out, hact]
          simp [h41]
        have hne : (s[z].toNat : Int) ≠ 41 := fun h => h41 (UInt8.toNat_inj.1 (by simpa using (by omega : s[z].toNat = 41)))
        generalize hc : (s[z].toNat : Int) = x at *
        have hgetk : ∀ h : z < s.size, (s[z].toNat : Int) = x := fun _ => hc
        have hcb : (x == 41) = false := by rw [beq_eq_false_iff_ne]; exact hne
        clear hlab hact hc hne h41 hamz
        go_enter Tryz.func155, Tryz.ntmps155
        go_wp2_with (first | (go_at_call 171; (with_reducible refine q0.out.mono ?_); rintro e w1 ⟨rfl, rfl⟩) | (go_at_call 154; (with_reducible refine (q1.out _).mono ?_); rintro e w' ⟨rfl, rfl⟩))
        go_ret2
        exact ⟨none, 0, 0, by rw [hv.out]; rfl, Below.refl _ _⟩
  · have hv := hide (labS_miss hm)
    rw [open_miss hm] at q0
    replace q0 := hide q0
    have q1 := hide (fun W => l01Name_calls s W (by unfold maxLen; omega))
    clear hm
    go_enter Tryz.func155, Tryz.ntmps155
    go_wp2_with (first | (go_at_call 171; (with_reducible refine q0.out.mono ?_); rintro e w1 ⟨rfl, rfl⟩) | (go_at_call 170; (with_reducible refine (q1.out _).mono ?_); rintro e w' ⟨rfl, rfl⟩))
    go_ret2
    exact ⟨some ⟨w.heap.size, 0, none⟩, 0, 0, by rw [hv.out]; rfl, (Below.refl _ _).alloc (Nat.le_refl _) _⟩

end Go.Proofs.YtanlgnjgpbjebaaGreatDoor

namespace Go.Proofs.YtanlgnjgpbjebaaGreatDoor
open Go.ChangeShapes Go.WideShapes Go.ChangeAt Go.RowKit
set_option linter.unusedVariables false

/-- What a predicate's call leaves. -/
def Says (b : Bool) (W : World) (e : Ending) (W' : World) : Prop := e = .returned (.bool b) ∧ Below W.heap.size W W'

theorem any_take_succ {α : Type} {G : α → Bool} {l : List α} {k : Nat} {x : α} (h : (l.take k).any G = false) (hx : l[k]? = some x) (hg : G x = false) : (l.take (k + 1)).any G = false := by
  rw [List.take_add_one, hx, List.any_append, h]
  simp [hg]
theorem any_hit {α : Type} {G : α → Bool} {l : List α} {k : Nat} {x : α} (hx : l[k]? = some x) (hg : G x = true) : l.any G = true :=
  List.any_eq_true.2 ⟨x, List.mem_of_getElem? hx, hg⟩

set_option maxRecDepth 100000 in
theorem indexFuncI_calls (F : FuncId) (caps : Array Value) (G : Int → Bool) (A : Option Addr) (n c : Nat) (l : List Int) (w : World) (lo hi : Nat) (h : SlI w lo hi A n l) (hn : n ≤ 1048576)
    (hF : ∀ (v : Value) (W : World), Sem.run Tryz.prog (callFunc F (#[v] ++ caps)) W = .ok (.enter F (#[v] ++ caps)) W)
    (hcl : ∀ (v : Int) (W : World), Below w.heap.size w W → Calls Tryz.prog F (#[.int .i64 v] ++ caps) W (Says (G v) W)) :
    Calls Tryz.prog 100 #[.slice A n c, .func (.func F) #[] caps] w fun e w' => ∃ i : Int, e = .returned (.int .i64 i) ∧ decide (0 ≤ i) = l.any G ∧ Below w.heap.size w w' := by
  have hlen := hide h.len
  replace hcl := hide hcl
  go_enter Tryz.func100, Tryz.ntmps100
  go_wp2
  go_loopw [8] (fun i wr => ∃ k : Nat, k ≤ n ∧ i = .int .i64 k ∧ Below w.heap.size w wr ∧ Hid ((l.take k).any G = false)) (fun i _ => n - (intOf i).toNat)
  case atStart => exact ⟨0, Nat.zero_le _, rfl, Below.refl _ _, rfl⟩
  case round =>
    obtain ⟨k, hk, rfl, hb, ha⟩ := hrel
    by_cases hlt : k < n
    · obtain ⟨b, off, x, rfl, g1, g2, g3, hx, c0, -⟩ := h.get hlt
      replace c0 := (hb.cell (p := ⟨b, off + k, none⟩) g3).trans c0
      have hc := hcl.out x wr hb
      replace hx := hide hx
      clear h hcl
      by_cases hg : G x = true
      · rw [hg] at hc
        replace hc := hide hc
        have hy := hide (any_hit hx.out hg)
        clear hg
        go_wp2_with fail
        refine hc.out.mono ?_
        rintro e w1 ⟨rfl, hb1⟩
        go_wp2_with fail
        go_ret
        exact ⟨_, rfl, by rw [hy.out]; simp, hb.trans (hb1.mono hb.size)⟩
      · replace hg := Bool.eq_false_iff.2 hg
        rw [hg] at hc
        replace hc := hide hc
        have hy := hide (any_take_succ ha.out hx.out hg)
        clear hg
        go_wp2_with fail
        refine hc.out.mono ?_
        rintro e w1 ⟨rfl, hb1⟩
        go_wp2_with fail
        go_roundw
        case rel => exact ⟨k + 1, by omega, by go_num, hb.trans (hb1.mono hb.size), hy⟩
        case measure => simp [intOf]; omega
    · have hkn : k = n := by omega
      subst hkn
      clear hcl
      go_wp2
      go_ret
      have hy := ha.out
      rw [List.take_of_length_le (by rw [hlen.out]; exact Nat.le_refl _)] at hy
      exact ⟨_, rfl, by rw [hy]; decide, hb⟩

theorem containsFuncI_calls (F : FuncId) (caps : Array Value) (G : Int → Bool) (A : Option Addr) (n c : Nat) (l : List Int) (w : World) (lo hi : Nat) (h : SlI w lo hi A n l) (hn : n ≤ 1048576)
    (hF : ∀ (v : Value) (W : World), Sem.run Tryz.prog (callFunc F (#[v] ++ caps)) W = .ok (.enter F (#[v] ++ caps)) W)
    (hcl : ∀ (v : Int) (W : World), Below w.heap.size w W → Calls Tryz.prog F (#[.int .i64 v] ++ caps) W (Says (G v) W)) :
    Calls Tryz.prog 57 #[.slice A n c, .func (.func F) #[] caps] w (Says (l.any G) w) := by
  have q := hide (indexFuncI_calls F caps G A n c l w lo hi h hn hF hcl)
  clear h hF hcl
  go_enter Tryz.func57, Tryz.ntmps57
  go_wp2_with fail
  refine q.out.mono ?_
  rintro e w1 ⟨i, rfl, hi, hb⟩
  replace hi := hide hi
  go_wp2_with fail
  go_ret
  exact ⟨ret_b hi.out.symm, hb⟩

end Go.Proofs.YtanlgnjgpbjebaaGreatDoor

namespace Go.Proofs.YtanlgnjgpbjebaaGreatDoor
open Go.ChangeShapes Go.WideShapes Go.ChangeAt Go.RowKit
set_option linter.unusedVariables false

theorem numsOf_snoc {f : List UInt8 → Option Int} : ∀ {l : List (List UInt8)} {ns : List Int} {x : List UInt8} {v : Int}, numsOf f l = some ns → f x = some v → numsOf f (l ++ [x]) = some (ns ++ [v])
  | [], ns, x, v, h, hf => by
    cases h
    show numsOf f [x] = _
    unfold numsOf
    rw [hf]
    rfl
  | y :: l, ns, x, v, h, hf => by
    unfold numsOf at h
    split at h
    · rename_i n ms hn hm
      cases h
      rw [List.cons_append]
      unfold numsOf
      rw [hn, numsOf_snoc hm hf]
      rfl
    · cases h

def dataL (l : List ByteArray) : List (List UInt8) := l.map (·.data.toList)
/-- What readNumbers hands back. -/
def NumsR (w w' : World) (n : Nat) (o : Option (List Int)) (e : Ending) : Prop :=
  match o with
  | none => e = .returned (.tuple #[.slice none 0 0, .bool false])
  | some ns => ∃ A c, e = .returned (.tuple #[.slice A n c, .bool true]) ∧ SlI w' w.heap.size w'.heap.size A n ns

set_option maxRecDepth 100000 in
set_option maxHeartbeats 800000 in
theorem readNumbers_calls (A : Option Addr) (n c : Nat) (l : List ByteArray) (w : World) (lo hi : Nat) (h : SlS w lo hi A n l) (hn : n ≤ 1048577) (hs : ∀ s ∈ l, s.size ≤ 1048576) (he : Env w) :
    Calls Tryz.prog 160 #[.slice A n c] w fun e w' => NumsR w w' n (numsOf numS (dataL l)) e ∧ Below w.heap.size w w' := by
  have hE := hide elem_int
  have hlen := hide h.len
  replace hs := hide hs
  go_enter Tryz.func160, Tryz.ntmps160
  go_wp2
  go_loopw [4, 11] (fun o i wr => ∃ (k : Nat) (A5 : Option Addr) (c5 : Nat) (L : List Int), k ≤ n ∧ o = .slice A5 k c5 ∧ i = .int .i64 (k : Nat) ∧ Hid (Own 1 iv wr w.heap.size 2 A5 k c5 L) ∧ Hid (numsOf numS ((dataL l).take k) = some L) ∧ Below w.heap.size w wr) (fun _ i _ => n - (intOf i).toNat)
  case atStart => exact ⟨0, none, 0, [], Nat.zero_le _, rfl, rfl, Own.nil_ _ _ _, rfl, Below.refl _ _⟩
  case round =>
    obtain ⟨k, A5, c5, L, hk, rfl, rfl, hown, hall, hb⟩ := hrel
    have hz := hb.size
    by_cases hlt : k < n
    · obtain ⟨bb, off, x, rfl, g1, g2, g3, hx, cc0, -⟩ := SlS.get h hlt
      replace cc0 := (hb.cell (p := ⟨bb, off + k, none⟩) g3).trans cc0
      have hx2 : (dataL l)[k]? = some x.data.toList := by unfold dataL; rw [List.getElem?_map, hx]; rfl
      have q3 := readDecimal_calls x (hs.out x (List.mem_of_getElem? hx)) wr (he.below hb (Nat.le_refl _))
      have htk : (dataL l).take (k + 1) = (dataL l).take k ++ [x.data.toList] := by rw [List.take_add_one, hx2]; rfl
      cases hnx : numS x.data.toList with
      | none =>
        have hv : Hid (numsOf numS (dataL l) = none) := numsOf_none hx2 hnx
        rw [hnx] at q3
        have q4 : Hid (Calls Tryz.prog 175 #[.string x] wr fun e w' => e = .returned (.tuple #[.int .i64 0, .bool false]) ∧ Below wr.heap.size wr w') := q3
        clear hx hx2 hnx q3 htk hall hown h he
        go_wp2_with fail
        refine q4.out.mono ?_
        rintro e w2 ⟨rfl, hb2⟩
        go_wp2_with fail
        go_ret2
        refine ⟨?_, hb.trans (hb2.mono hz)⟩
        rw [hv.out]
        rfl
      | some v =>
        have hnext : Hid (numsOf numS ((dataL l).take (k + 1)) = some (L ++ [v])) := by
          show _ = _
          rw [htk]
          exact numsOf_snoc hall.out hnx
        rw [hnx] at q3
        have q4 : Hid (Calls Tryz.prog 175 #[.string x] wr fun e w' => e = .returned (.tuple #[.int .i64 v, .bool true]) ∧ Below wr.heap.size wr w') := q3
        clear hx hx2 hnx q3 htk hall h he
        go_wp2_with fail
        refine q4.out.mono ?_
        rintro e w2 ⟨rfl, hb2⟩
        have hown2 := hide (hown.out.below hb2 (Nat.le_refl _))
        have hb3 := hb.trans (hb2.mono hz)
        have hz3 := hb3.size
        have hza : ∀ o, w.heap.size ≤ (w2.alloc o).heap.size := fun o => by rw [World.size_alloc]; omega
        clear hb2 hown
        go_wp2_with (first | (at_builtin; (with_reducible refine wpList_app rfl (.tmp 22) (.tmp 24) rfl hE.out flat_iv rfl (hown2.out.alloc _) rfl (Sl.lit1' w2 2 v _ rfl 1 _ ?c0) ?c1 (hza _) ?_); rotate_right; intro A7 c7 w7 hown7 hgr7 hb7 _))
        case c0 => rfl
        case c1 => omega
        go_roundw
        case rel => exact ⟨k + 1, A7, c7, L ++ [v], by omega, rfl, by go_num, hown7, hnext, (hb3.alloc hz3 _).trans hb7⟩
        case measure => simp [intOf]; omega
    · have hkn : k = n := by omega
      subst hkn
      have hv : Hid (numsOf numS (dataL l) = some L) := by
        have := hall.out
        rw [List.take_of_length_le (by unfold dataL; rw [List.length_map, hlen.out]; exact Nat.le_refl _)] at this
        exact this
      go_wp2_with fail
      go_ret2
      refine ⟨?_, hb⟩
      rw [hv.out]
      exact ⟨A5, c5, rfl, hown.out.sl flat_iv⟩

theorem isValue_calls (v : Int) (w : World) : Calls Tryz.prog 203 #[.int .i64 v] w fun e w' => e = .returned (.bool (inB v 0 63)) ∧ w = w' := by
  have q := hide (within_calls v 0 63 w)
  go_enter Tryz.func203, Tryz.ntmps203
  go_wp2_with fail
  refine q.out.mono ?_
  rintro e w1 ⟨rfl, rfl⟩
  go_wp2_with fail
  go_ret
  exact ⟨rfl, rfl⟩
theorem areValues1_calls (v : Int) (w : World) : Calls Tryz.prog 202 #[.int .i64 v] w (Says (!(inB v 0 63)) w) := by
  have q := hide (isValue_calls v w)
  go_enter Tryz.func202, Tryz.ntmps202
  go_wp2_with fail
  refine q.out.mono ?_
  rintro e w1 ⟨rfl, rfl⟩
  go_wp2_with fail
  go_ret
  exact ⟨rfl, Below.refl _ _⟩
theorem areValues_calls (A : Option Addr) (n c : Nat) (L : List Int) (w : World) (lo hi : Nat) (h : SlI w lo hi A n L) (hn : n ≤ 1048576) :
    Calls Tryz.prog 178 #[.slice A n c] w (Says (L.all isVal) w) := by
  have q := hide (containsFuncI_calls 202 #[] (fun v => !(inB v 0 63)) A n c L w lo hi h hn (fun v W => by kernel_rfl) (fun v W _ => areValues1_calls v W))
  have hv : Hid (L.all isVal = !(L.any fun v => !(inB v 0 63))) := by
    show _ = _
    have : isVal = fun v => inB v 0 63 := rfl
    rw [this, List.not_any_eq_all_not]
    simp
  clear h
  go_enter Tryz.func178, Tryz.ntmps178
  go_wp2_with fail
  refine q.out.mono ?_
  rintro e w1 ⟨rfl, hb⟩
  go_wp2_with fail
  go_ret
  exact ⟨ret_b (by rw [hv.out]), hb⟩

theorem join_len (sep : List UInt8) (m : Nat) : ∀ xs : List (List UInt8), (∀ x ∈ xs, x.length ≤ m) → (Lib.join xs sep).length ≤ xs.length * (m + sep.length)
  | [], _ => by rw [Lib.join_nil]; simp
  | [x], h => by
    rw [Lib.join_one]
    have := h x (by simp)
    simp
    omega
  | x :: y :: r, h => by
    have ih := join_len sep m (y :: r) (fun z hz => h z (List.mem_cons_of_mem _ hz))
    have hx := h x (by simp)
    rw [join_cons2, List.length_append, List.length_append, List.length_cons, Nat.add_mul]
    omega

def decB (n : Int) : ByteArray := ⟨(Lib.itoa n).toArray⟩
set_option maxRecDepth 100000 in
set_option maxHeartbeats 800000 in
theorem joined_calls (A : Option Addr) (n c : Nat) (L : List Int) (w : World) (lo hi : Nat) (h : SlI w lo hi A n L) (hn : n ≤ 1048576) (hL : ∀ v ∈ L, -9223372036854775808 ≤ v ∧ v ≤ 9223372036854775807) (he : Env w) :
    Calls Tryz.prog 179 #[.slice A n c, .string ⟨#[44]⟩] w fun e w' => e = .returned (.string (mkB (Lib.join (L.map Lib.itoa) [44]))) ∧ Below w.heap.size w w' := by
  obtain ⟨i0, hi0, hz0, hz1, hz2⟩ := info_parts info_string
  have hmk := fun W => make_row (P := Tryz.prog) 23 9 i0 _ _ n Tryz.underlying23 hi0 hz0 hz1 (by rw [hz2]; omega) (by omega) W
  clear hi0 hz0 hz1 hz2
  have hlen := hide h.len
  replace hL := hide hL
  go_enter Tryz.func179, Tryz.ntmps179
  go_wp2
  go_loopw [13] (fun i wr => ∃ k : Nat, k ≤ n ∧ i = .int .i64 k ∧ Below w.heap.size w wr ∧ Fill 1 strv wr w.heap.size 9 n k (L.map decB)) (fun i _ => n - (intOf i).toNat)
  case atStart => exact ⟨0, Nat.zero_le _, rfl, (Below.refl _ _).alloc (Nat.le_refl _) _, Fill.start _ _ _ _ (by simp [madeCells])⟩
  case round =>
    obtain ⟨k, hk, rfl, hb, hf⟩ := hrel
    clear hmk
    by_cases hlt : k < n
    · obtain ⟨b, off, x, rfl, g1, g2, g3, hx, c0, -⟩ := h.get hlt
      replace c0 := (hb.cell (p := ⟨b, off + k, none⟩) g3).trans c0
      have hxb := hL.out x (List.mem_of_getElem? hx)
      have q := hide (decimal_calls x hxb.1 hxb.2 wr (he.below hb (Nat.le_refl _)))
      have hx2 : Hid ((L.map decB)[k]? = some (decB x)) := by show _ = _; rw [List.getElem?_map, hx]; rfl
      clear h hx hxb he
      go_wp2_with fail
      refine q.out.mono ?_
      rintro e w1 ⟨rfl, hb1⟩
      have hf1 := hf.keep (hb1.block _ hf.lt)
      obtain ⟨v0, d0⟩ := hf1.cell (i := k) (by omega)
      have z0 := hf1.frozen k
      go_wp2_with fail
      go_roundw
      case rel => exact ⟨k + 1, by omega, by go_num, (hb.trans (hb1.mono hb.size)).setCell (Nat.le_refl _) _, hf1.set1 hlt (fun _ => rfl) hx2.out rfl⟩
      case measure => simp [intOf]; omega
    · have hkn : k = n := by omega
      subst hkn
      have hml : (L.map decB).length = k := by rw [List.length_map]; exact hlen.out
      have hsl := hf.done hml (Nat.le_refl _) hf.lt
      have hdat : (L.map decB).map (·.data.toList) = L.map Lib.itoa := by rw [List.map_map]; rfl
      have hjl := join_len [44] 21 (L.map Lib.itoa) (fun y hy => by
        obtain ⟨v, hv, rfl⟩ := List.mem_map.1 hy
        exact Lib.itoa_length_le v (hL.out v hv).1 (hL.out v hv).2)
      rw [List.length_map, hlen.out, show 21 + ([44] : List UInt8).length = 22 from rfl] at hjl
      have q : Calls Tryz.prog 204 #[.slice (some ⟨w.heap.size, 0, none⟩) k k, .string ⟨#[44]⟩] wr fun e w' => e = .returned (.string (mkB (Lib.join (L.map Lib.itoa) [44]))) ∧ Below wr.heap.size wr w' := by
        have := Tryz.strings_Join w.heap.size 0 k (L.map decB) ⟨#[44]⟩ wr (fun j x hx => by
          have hj : j < k := by rw [← hml]; exact (List.getElem?_eq_some_iff.1 hx).1
          obtain ⟨b, off, e1, _, _, _, hcell⟩ := hsl.at_ (by omega)
          cases e1
          have := (hcell j x hx 0 _ rfl).1
          simpa using this) hf.lt (by rw [hml]; omega) (by rw [hml]; exact Nat.le_refl _) (by
            rw [hdat]
            show (Lib.join (L.map Lib.itoa) [44]).length ≤ _
            omega)
        rw [hml, hdat] at this
        exact this
      replace q := hide q
      clear h hsl hdat hjl he
      go_wp2_with fail
      refine q.out.mono ?_
      rintro e w1 ⟨rfl, hb1⟩
      go_wp2_with fail
      go_ret
      exact ⟨rfl, hb.trans (hb1.mono hb.size)⟩

end Go.Proofs.YtanlgnjgpbjebaaGreatDoor

namespace Go.Proofs.YtanlgnjgpbjebaaGreatDoor
open Go.ChangeShapes Go.WideShapes Go.ChangeAt Go.RowKit
set_option linter.unusedVariables false

theorem nameB_len {s : ByteArray} (h : nameB s = true) : s.size ≤ 10 := by
  unfold nameB at h
  rw [Bool.and_eq_true, decide_eq_true_eq] at h
  exact h.2.2
theorem isAction_calls (s : ByteArray) (w : World) (hs : s.size ≤ 1048576) : Calls Tryz.prog 165 #[.string s] w fun e w' => e = .returned (.bool (actB s)) ∧ w = w' := by
  have q := isName_calls s w (by unfold maxLen; omega)
  by_cases hn : nameB s = true
  · rw [hn] at q
    replace q := hide q
    by_cases ht : s = tauB
    · have hv : Hid (actB s = false) := by show _ = _; unfold actB; simp [ht]
      subst ht
      clear hn
      go_enter Tryz.func165, Tryz.ntmps165
      go_wp2_with (first | (go_at_call 180; (with_reducible refine q.out.mono ?_); rintro e w1 ⟨rfl, rfl⟩))
      go_ret
      exact ⟨ret_b (by rw [hv.out, tau_list]; rfl), rfl⟩
    · have hv : Hid (actB s = true) := by show _ = _; unfold actB; simp [ht, hn]
      have hne := tau_ne ht
      clear hn ht
      go_enter Tryz.func165, Tryz.ntmps165
      go_wp2_with (first | (go_at_call 180; (with_reducible refine q.out.mono ?_); rintro e w1 ⟨rfl, rfl⟩))
      go_ret
      exact ⟨ret_b (by rw [hv.out]), rfl⟩
  · replace hn := Bool.eq_false_iff.2 hn
    have hv : Hid (actB s = false) := by show _ = _; unfold actB; rw [hn]; rfl
    rw [hn] at q
    replace q := hide q
    clear hn
    go_enter Tryz.func165, Tryz.ntmps165
    go_wp2_with (first | (go_at_call 180; (with_reducible refine q.out.mono ?_); rintro e w1 ⟨rfl, rfl⟩))
    go_ret
    exact ⟨ret_b (by rw [hv.out]), rfl⟩

theorem isVal_bounds {L : List Int} (h : L.all isVal = true) : ∀ v ∈ L, -9223372036854775808 ≤ v ∧ v ≤ 9223372036854775807 := fun v hv => by
  have := (List.all_eq_true.1 h) v hv
  simp [isVal] at this
  omega

/-- What labelOf hands back. -/
def LabR (w w' : World) (o : Option (List UInt8)) (e : Ending) : Prop := ∃ t b, e = .returned (.tuple #[.string t, .bool b]) ∧ o = (if b then some t.data.toList else none) ∧ Below w.heap.size w w'

set_option maxRecDepth 100000 in
set_option maxHeartbeats 800000 in
theorem labelOf_calls (nm : ByteArray) (A : Option Addr) (n c : Nat) (L : List Int) (w : World) (lo hi : Nat) (hs : nm.size ≤ 1048576) (h : SlI w lo hi A n L) (hn : n ≤ 1048577) (he : Env w) :
    Calls Tryz.prog 163 #[.string nm, .slice A n c] w fun e w' => LabR w w' (labOf nameL nm.data.toList L) e := by
  have hlen := h.len
  have hq1 := isAction_calls nm w hs
  by_cases ht : nm = tauB
  · have htl : nm.data.toList = tauL := by rw [ht]; rfl
    by_cases h0 : n = 0
    · have hL0 : L = [] := List.eq_nil_of_length_eq_zero (by omega)
      have hv : Hid (labOf nameL nm.data.toList L = some tauL) := by show _ = _; unfold labOf; rw [if_pos htl, if_pos hL0]
      subst h0 ht
      clear hL0 htl hlen hq1 h he
      have htt : (tauB.toList == [116, 97, 117]) = true := by rw [tau_list]; rfl
      go_enter Tryz.func163, Tryz.ntmps163
      go_wp2_with fail
      go_ret2
      exact ⟨tauB, true, rfl, by rw [hv.out]; rfl, Below.refl _ _⟩
    · have hL0 : L ≠ [] := by rintro rfl; simp at hlen; omega
      have hv : Hid (labOf nameL nm.data.toList L = none) := by show _ = _; unfold labOf; rw [if_pos htl, if_neg hL0]
      have hb0 : ((n : Int) == 0) = false := by rw [beq_eq_false_iff_ne]; omega
      subst ht
      clear hL0 htl hlen hq1 h he
      have htt : (tauB.toList == [116, 97, 117]) = true := by rw [tau_list]; rfl
      go_enter Tryz.func163, Tryz.ntmps163
      go_wp2_with fail
      go_ret2
      exact ⟨tauB, false, rfl, by rw [hv.out]; rfl, Below.refl _ _⟩
  · have htl : nm.data.toList ≠ tauL := fun e => ht (by rw [← bytes_eta nm, e]; rfl)
    have hact : actB nm = nameB nm := by unfold actB; rw [decide_eq_false ht]; simp
    have hne := tau_ne ht
    have hq2 := areValues_calls A n c L w lo hi h
    cases hnm : nameB nm with
    | false =>
      have hv : Hid (labOf nameL nm.data.toList L = none) := by show _ = _; unfold labOf; rw [if_neg htl, nameL_data, hnm]; rfl
      rw [hact, hnm] at hq1
      replace hq1 := hide hq1
      clear hact htl ht hnm h he hq2 hlen
      go_enter Tryz.func163, Tryz.ntmps163
      go_wp2_with (first | (go_at_call 165; (with_reducible refine hq1.out.mono ?_); rintro e w1 ⟨rfl, rfl⟩))
      go_ret2
      exact ⟨⟨#[]⟩, false, rfl, by rw [hv.out]; rfl, Below.refl _ _⟩
    | true =>
      rw [hact, hnm] at hq1
      replace hq1 := hide hq1
      by_cases h2 : 2 < n
      · have hv : Hid (labOf nameL nm.data.toList L = none) := by
          show _ = _
          unfold labOf
          rw [if_neg htl, nameL_data, hnm, if_pos (by rw [hlen]; simp [h2])]
        have h2I : (2 : Int) < (n : Int) := by omega
        clear hact htl ht hnm h he hq2 hlen
        go_enter Tryz.func163, Tryz.ntmps163
        go_wp2_with (first | (go_at_call 165; (with_reducible refine hq1.out.mono ?_); rintro e w1 ⟨rfl, rfl⟩))
        go_ret2
        exact ⟨⟨#[]⟩, false, rfl, by rw [hv.out]; rfl, Below.refl _ _⟩
      · replace hq2 := hq2 (by omega)
        have h2I : ¬ (2 : Int) < (n : Int) := by omega
        have h2L : ¬ 2 < L.length := by omega
        cases hall : L.all isVal with
        | false =>
          have hv : Hid (labOf nameL nm.data.toList L = none) := by
            show _ = _
            unfold labOf
            rw [if_neg htl, nameL_data, hnm, if_pos (by rw [hall]; simp)]
          rw [hall] at hq2
          replace hq2 := hide hq2
          clear hact htl ht hnm h he hlen hall h2 h2L
          go_enter Tryz.func163, Tryz.ntmps163
          go_wp2_with (first | (go_at_call 165; (with_reducible refine hq1.out.mono ?_); rintro e w1 ⟨rfl, rfl⟩) | (go_at_call 178; (with_reducible refine hq2.out.mono ?_); rintro e w2 ⟨rfl, hb2⟩))
          go_ret2
          exact ⟨⟨#[]⟩, false, rfl, by rw [hv.out]; rfl, hb2⟩
        | true =>
          rw [hall] at hq2
          replace hq2 := hide hq2
          have hcond : ¬ ((!(nameL nm.data.toList) || decide (2 < L.length) || !(L.all isVal)) = true) := by rw [nameL_data, hnm, hall, decide_eq_false h2L]; decide
          by_cases h0 : n = 0
          · have hL0 : L = [] := List.eq_nil_of_length_eq_zero (by omega)
            have hv : Hid (labOf nameL nm.data.toList L = some nm.data.toList) := by
              show _ = _
              unfold labOf
              rw [if_neg htl, if_neg hcond, if_pos hL0]
            subst h0
            clear hact htl ht hnm h he hlen hall h2 h2L hcond hL0
            go_enter Tryz.func163, Tryz.ntmps163
            go_wp2_with (first | (go_at_call 165; (with_reducible refine hq1.out.mono ?_); rintro e w1 ⟨rfl, rfl⟩) | (go_at_call 178; (with_reducible refine hq2.out.mono ?_); rintro e w2 ⟨rfl, hb2⟩))
            go_ret2
            exact ⟨nm, true, rfl, by rw [hv.out]; rfl, hb2⟩
          · have hL0 : L ≠ [] := by rintro rfl; simp at hlen; omega
            have hb0 : ((n : Int) == 0) = false := by rw [beq_eq_false_iff_ne]; omega
            have q3 := hide (fun (W : World) (hW : Below w.heap.size w W) => joined_calls A n c L W lo hi (h.below hW (.inr (Nat.le_refl _))) (by omega) (isVal_bounds hall) (he.below hW (Nat.le_refl _)))
            have hjl := join_len [44] 21 (L.map Lib.itoa) (fun y hy => by
              obtain ⟨v, hv, rfl⟩ := List.mem_map.1 hy
              exact Lib.itoa_length_le v (isVal_bounds hall v hv).1 (isVal_bounds hall v hv).2)
            rw [List.length_map, show 21 + ([44] : List UInt8).length = 22 from rfl] at hjl
            have hv : Hid (labOf nameL nm.data.toList L = some (nm.data.toList ++ [40] ++ Lib.join (L.map Lib.itoa) [44] ++ [41])) := by
              show _ = _
              unfold labOf
              rw [if_neg htl, if_neg hcond, if_neg hL0]
            have hjs : (mkB (Lib.join (L.map Lib.itoa) [44])).size ≤ 44 := by rw [mkB_size]; omega
            have hnms := nameB_len hnm
            have hjd : Hid ((mkB (Lib.join (L.map Lib.itoa) [44])).data.toList = Lib.join (L.map Lib.itoa) [44]) := rfl
            clear hact htl ht hnm h he hlen hall h2 h2L hcond hL0 hjl
            generalize mkB (Lib.join (L.map Lib.itoa) [44]) = J at *
            go_enter Tryz.func163, Tryz.ntmps163
            go_wp2_with (first | (go_at_call 165; (with_reducible refine hq1.out.mono ?_); rintro e w1 ⟨rfl, rfl⟩) | (go_at_call 178; (with_reducible refine hq2.out.mono ?_); rintro e w2 ⟨rfl, hb2⟩))
            refine (q3.out _ hb2).mono ?_
            rintro e w3 ⟨rfl, hb3⟩
            go_wp2_with fail
            go_ret2
            refine ⟨_, true, rfl, ?_, hb2.trans (hb3.mono hb2.size)⟩
            rw [hv.out, ← hjd.out]
            simp [ByteArray.data_append]

end Go.Proofs.YtanlgnjgpbjebaaGreatDoor
