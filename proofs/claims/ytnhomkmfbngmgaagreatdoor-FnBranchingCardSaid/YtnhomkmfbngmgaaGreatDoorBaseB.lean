/-
  Several texts in one:
  Names: the program's test and the reference's. Conditions:
  What a world brings of the library's settled variables, and
  The program's reading of one number. Conditions: sizes.
  The reference's cutting of texts. Conditions: sizes.
  The reference's test of a label. Conditions: sizes.
  slices.IndexFunc and slices.ContainsFunc at whatever function
  The program's reading of lists of numbers, joining, tests of
  The program's reading of a label. Conditions: sizes.
  The program's test of a label, and its name. Conditions:
  The reference's tests of labels' lists. Conditions: sizes.
  The reference's tests of systems. Conditions: sizes.
  The reference's test of a system, whole. Conditions: sizes.
  The reference's tests of determinism and of monitors' parts.
  The program's small tests on edges and states. Conditions:
  Rising lists of edges and an edge put into one: plain; an
  The shelf's contract of SortFunc at []impl.Edge, in plain
  The source of choices: a cell with the bytes, how far they
  What drawing leaves, one of a list, and the source made from
-/
import Derived.Test.YtnhomkmfbngmgaaGreatDoorBaseA
import Derived.StillTailTactics
import Derived.Lib.AppendIntMem
import Derived.WalkSmall
import Derived.Deep.RegionLaw
import Derived.Test.YtnhomkmfbngmgaaGreatDoorRows
import Derived.LoopTactic
import Derived.Lib.ItoaLen
import Derived.Lib.QuietBelow
import Derived.BigQuiet
import Derived.Laws.Cover1
import Derived.IntWalk
import Derived.Deep.RegionHeld3
import Derived.Ground.SlsfProg
import Derived.Shelf.SlSortCmp.NoneTotal
import Derived.Sort.EncStr
import Derived.Shelf.SlGeneric
import Derived.Test.YtnhomkmfbngmgaaGreatDoorProg
import Derived.Test.YtnhomkmfbngmgaaGreatDoorChecked
import Derived.Deep.QuietTactic
import Derived.Deep.CutBlock
import Derived.Deep.DeepCutAuto
set_option linter.unusedSimpArgs false
set_option linter.unusedVariables false
namespace Go.Proofs.YtnhomkmfbngmgaaGreatDoor
open Go.ChangeShapes Go.WideShapes Go.ChangeAt Go.RowKit
set_option linter.unusedVariables false

def smallB (c : Int) : Bool := decide (97 ≤ c) && decide (c ≤ 122)
def digitB (c : Int) : Bool := decide (48 ≤ c) && decide (c ≤ 57)

theorem isDigit_calls (c : Int) (w : World) : Calls Tryz.prog 306 #[.int .u8 c] w fun e w' => e = .returned (.bool (digitB c)) ∧ w = w' := by
 by_cases h1 : 48 ≤ c <;> by_cases h2 : c ≤ 57
 all_goals
  go_enter Tryz.func306, Tryz.ntmps306
  go_wp2
  go_ret
  exact ⟨by simp [digitB, h1, h2], rfl⟩
def badX (k : Nat) (x : Int) : Bool := !(smallB x) && (decide (k = 0) || !(digitB x))
def badAt (s : ByteArray) (k : Nat) : Bool := match s.data.toList[k]? with | some c => badX k (c.toNat : Int) | none => false
def nameB (s : ByteArray) : Bool := (List.range s.size).all (fun k => !(badAt s k)) && decide (1 ≤ s.size ∧ s.size ≤ 10)
theorem badAt_get (s : ByteArray) (k : Nat) (h : k < s.size) : badAt s k = badX k (s[k].toNat : Int) := by
 unfold badAt
 have : s.data.toList[k]? = some s[k] := by
  rw [List.getElem?_eq_getElem (by simpa using h)]
  rfl
 rw [this]
theorem nameB_bad {s : ByteArray} {k : Nat} (h : k < s.size) (hb : badX k (s[k].toNat : Int) = true) : nameB s = false := by
 unfold nameB
 rw [Bool.and_eq_false_iff]
 left
 rw [← Bool.not_eq_true, List.all_eq_true]
 intro hc
 have := hc k (List.mem_range.2 h)
 rw [badAt_get s k h, hb] at this
 cases this
theorem nameB_good {s : ByteArray} (h : ∀ j (hj : j < s.size), badX j (s[j].toNat : Int) = false) : nameB s = decide (1 ≤ s.size ∧ s.size ≤ 10) := by
 unfold nameB
 rw [(List.all_eq_true.2 fun k hk => by rw [badAt_get s k (List.mem_range.1 hk), h k (List.mem_range.1 hk)]; rfl), Bool.true_and]

set_option maxHeartbeats 800000 in
set_option maxRecDepth 100000 in
theorem isName_calls (s : ByteArray) (w : World) (hs : s.size ≤ maxLen) : Calls Tryz.prog 250 #[.string s] w fun e w' => e = .returned (.bool (nameB s)) ∧ w = w' := by
 unfold maxLen at hs
 have hs63 : s.size ≤ 9223372036854775807 := by omega
 go_enter Tryz.func250, Tryz.ntmps250
 go_wp2
 go_loop [7] (fun i => ∃ k : Nat, k ≤ s.size ∧ i = .int .i64 k ∧ Hid (∀ j (hj : j < s.size), j < k → badX j (s[j].toNat : Int) = false)) (fun i => s.size - (intOf i).toNat)
 case atStart => exact ⟨0, Nat.zero_le _, rfl, fun j _ h => absurd h (by omega)⟩
 case round =>
  obtain ⟨k, hk, rfl, ha⟩ := hrel
  by_cases hlt : k < s.size
  ·have hbad := hide (fun hb => nameB_bad (s := s) hlt hb)
   have hnext : Hid (badX k (s[k].toNat : Int) = false → ∀ j (hj : j < s.size), j < k + 1 → badX j (s[j].toNat : Int) = false) := fun hg j hj hjk => by
    rcases Nat.lt_or_ge j k with h1 | h1
    ·exact ha.out j hj h1
    ·have : j = k := by omega
     subst this
     exact hg
   have hq := hide (isDigit_calls (s[k].toNat : Int) w)
   generalize hc : (s[k].toNat : Int) = c at *
   have hgetk : ∀ h : k < s.size, (s[k].toNat : Int) = c := fun _ => hc
   by_cases h1 : 97 ≤ c ∧ c ≤ 122
   ·have h1a := h1.1
    have h1b := h1.2
    have hg : Hid (badX k c = false) := by show _ = _; simp [badX, smallB, h1a, h1b]
    clear h1
    go_wp2_with fail
    go_round
    case rel => exact ⟨k + 1, by omega, by go_num, hnext.out hg.out⟩
    case measure => simp [intOf]; omega
   ·by_cases h1a : 97 ≤ c
    ·have h1b : ¬ c ≤ 122 := fun h => h1 ⟨h1a, h⟩
     clear h1
     have hsm : Hid (smallB c = false) := by show _ = _; simp [smallB]; omega
     by_cases hk0 : k = 0
     ·have hv := hide (hbad.out (by rw [hk0]; simp [badX, hsm.out]))
      subst hk0
      clear hnext hq
      go_wp2_with fail
      go_ret
      exact ⟨ret_b (by rw [hv.out]), rfl⟩
     ·have hki : ((k : Int) == 0) = false := by rw [beq_eq_false_iff_ne]; omega
      by_cases hd : digitB c = true
      ·have hqq := hq.out
       rw [hd] at hqq
       replace hqq := hide hqq
       have hg : Hid (badX k c = false) := by show _ = _; simp [badX, hsm.out, hk0, hd]
       clear hd hq hk0
       go_wp2_with (go_at_call 306; (with_reducible refine hqq.out.mono ?_); rintro e w1 ⟨rfl, rfl⟩)
       go_round
       case rel => exact ⟨k + 1, by omega, by go_num, hnext.out hg.out⟩
       case measure => simp [intOf]; omega
      ·have hqq := hq.out
       replace hd := Bool.eq_false_iff.2 hd
       rw [hd] at hqq
       replace hqq := hide hqq
       have hv := hide (hbad.out (by simp [badX, hsm.out, hd]))
       clear hd hq hk0 hnext
       go_wp2_with (go_at_call 306; (with_reducible refine hqq.out.mono ?_); rintro e w1 ⟨rfl, rfl⟩)
       go_ret
       exact ⟨ret_b (by rw [hv.out]), rfl⟩
    ·clear h1
     have hsm : Hid (smallB c = false) := by show _ = _; simp [smallB]; omega
     by_cases hk0 : k = 0
     ·have hv := hide (hbad.out (by rw [hk0]; simp [badX, hsm.out]))
      subst hk0
      clear hnext hq
      go_wp2_with fail
      go_ret
      exact ⟨ret_b (by rw [hv.out]), rfl⟩
     ·have hki : ((k : Int) == 0) = false := by rw [beq_eq_false_iff_ne]; omega
      by_cases hd : digitB c = true
      ·have hqq := hq.out
       rw [hd] at hqq
       replace hqq := hide hqq
       have hg : Hid (badX k c = false) := by show _ = _; simp [badX, hsm.out, hk0, hd]
       clear hd hq hk0
       go_wp2_with (go_at_call 306; (with_reducible refine hqq.out.mono ?_); rintro e w1 ⟨rfl, rfl⟩)
       go_round
       case rel => exact ⟨k + 1, by omega, by go_num, hnext.out hg.out⟩
       case measure => simp [intOf]; omega
      ·have hqq := hq.out
       replace hd := Bool.eq_false_iff.2 hd
       rw [hd] at hqq
       replace hqq := hide hqq
       have hv := hide (hbad.out (by simp [badX, hsm.out, hd]))
       clear hd hq hk0 hnext
       go_wp2_with (go_at_call 306; (with_reducible refine hqq.out.mono ?_); rintro e w1 ⟨rfl, rfl⟩)
       go_ret
       exact ⟨ret_b (by rw [hv.out]), rfl⟩
  ·have hkn : k = s.size := by omega
   have hv := hide (nameB_good (s := s) (fun j hj => ha.out j hj (by omega)))
   by_cases z1 : 1 ≤ s.size
   ·by_cases z2 : s.size ≤ 10
    ·have hvv : Hid (nameB s = true) := by show _ = _; rw [hv.out]; simp [z1, z2]
     have z1i : (1 : Int) ≤ (s.size : Int) := by omega
     have z2i : (s.size : Int) ≤ 10 := by omega
     clear hv ha
     go_wp2_with fail
     go_ret
     exact ⟨ret_b (by rw [hvv.out]), rfl⟩
    ·have hvv : Hid (nameB s = false) := by show _ = _; rw [hv.out]; simp [z2]
     have z1i : (1 : Int) ≤ (s.size : Int) := by omega
     have z2i : ¬ (s.size : Int) ≤ 10 := by omega
     clear hv ha
     go_wp2_with fail
     go_ret
     exact ⟨ret_b (by rw [hvv.out]), rfl⟩
   ·have hvv : Hid (nameB s = false) := by show _ = _; rw [hv.out]; simp; omega
    have z1i : ¬ (1 : Int) ≤ (s.size : Int) := by omega
    clear hv ha
    go_wp2_with fail
    go_ret
    exact ⟨ret_b (by rw [hvv.out]), rfl⟩

end Go.Proofs.YtnhomkmfbngmgaaGreatDoor

namespace Go.Proofs.YtnhomkmfbngmgaaGreatDoor
open Go.ChangeShapes Go.WideShapes Go.ChangeAt Go.RowKit
set_option linter.unusedVariables false

structure Good (w : World) : Prop where
 shape : w.ShapedOpen Tryz.prog
 tab : Lib.TabIs Tryz.prog w "internal/strconv.uint64pow10" .u64 Lib.pow10Tab
 syn : ∃ tp p, w.var? Tryz.prog "strconv.ErrSyntax" = some #[.iface tp p]
def Env (w : World) : Prop := ∃ W0, Good W0 ∧ Below W0.heap.size W0 w
theorem Env.of {w : World} (h : Good w) : Env w := ⟨w, h, Below.refl _ _⟩
theorem Env.below {w w' : World} {B : Nat} (h : Env w) (hb : Below B w w') (hB : w.heap.size ≤ B) : Env w' := by
 obtain ⟨W0, h0, h1⟩ := h
 have hs := h1.size
 exact ⟨W0, h0, h1.trans (hb.mono (by omega))⟩
theorem var_lt {W : World} {n : String} {cs : Array Value} {g : Nat} (hg : Tryz.prog.globalNamed n = some g) (hv : W.var? Tryz.prog n = some cs) : g < W.heap.size := by
 unfold World.var? at hv
 rw [hg] at hv
 rcases Nat.lt_or_ge g W.heap.size with h | h
 ·exact h
 ·simp [Array.getElem?_eq_none h] at hv
set_option maxRecDepth 100000 in
theorem Env.good {w : World} (h : Env w) : Good w := by
 obtain ⟨W0, h0, h1⟩ := h
 have hblk : ∀ {k : Nat} {o : Obj}, W0.heap[k]? = some o → w.heap[k]? = some o := fun {k o} hk => (h1.block k (Array.getElem?_eq_some_iff.1 hk).1).trans hk
 obtain ⟨g1, e1⟩ : ∃ g, Tryz.prog.globalNamed "internal/strconv.uint64pow10" = some g := Option.isSome_iff_exists.1 (by kernel_rfl)
 obtain ⟨g2, e2⟩ : ∃ g, Tryz.prog.globalNamed "strconv.ErrSyntax" = some g := Option.isSome_iff_exists.1 (by kernel_rfl)
 refine ⟨⟨fun g zero t hg hr => ?_, fun k hk1 hk2 => ?_⟩, ?_, ?_⟩
 ·obtain ⟨cs, a, b, c⟩ := h0.shape.1 g zero t hg hr
  exact ⟨cs, hblk a, b, fun hb => Row.ok_of_shape (fun bb x hx => by
   unfold World.shape? at hx ⊢
   rcases Nat.lt_or_ge bb W0.heap.size with h | h
   ·rw [h1.block bb h]; exact hx
   ·simp [Array.getElem?_eq_none h] at hx) (c hb)⟩
 ·obtain ⟨o, o2, a, b⟩ := h0.shape.2 k hk1 hk2
  exact ⟨o, o2, hblk a, b⟩
 ·exact var?_below h1 e1 (var_lt e1 h0.tab) h0.tab
 ·obtain ⟨tp, p, hv⟩ := h0.syn
  exact ⟨tp, p, var?_below h1 e2 (var_lt e2 hv) hv⟩

set_option maxRecDepth 100000 in
theorem decimal_calls (n : Int) (h0 : -9223372036854775808 ≤ n) (h1 : n ≤ 9223372036854775807) (w : World) (he : Env w) :
  Calls Tryz.prog 56 #[.int .i64 n] w fun e w' => e = .returned (.string ⟨(Lib.itoa n).toArray⟩) ∧ Below w.heap.size w w' := by
 have q := hide (Tryz.strconv_FormatInt_10 n h0 h1 w he.good.tab)
 clear he
 go_enter Tryz.func56, Tryz.ntmps56
 go_wp2_with fail
 refine q.out.mono ?_
 rintro e w1 ⟨rfl, k, os, rfl⟩
 go_wp2_with fail
 go_ret
 exact ⟨rfl, Lib.below_grow _ _ (Nat.le_refl _) _ _⟩

theorem parse_short (l : List UInt8) (h : ¬ 18 < (Lib.trimPrefix l [45]).length) :
  (∃ v : Int, Lib.parseIntB 64 l = .ok v ∧ -9223372036854775808 ≤ v ∧ v ≤ 9223372036854775807) ∨ Lib.parseIntB 64 l = Lib.NumEnd.syntax := by
 cases l with
 | nil => exact .inr rfl
 | cons c r =>
  have key : ∀ t : List UInt8, t.length ≤ 18 → Lib.parseUintB 64 t = Lib.NumEnd.syntax ∨ ∃ u, Lib.parseUintB 64 t = .ok u ∧ u < 10 ^ 18 := by
   intro t ht
   rw [parseUintB_short t ht]
   by_cases hd : t ≠ [] ∧ t.all isDig = true
   ·rw [if_pos hd]
    exact .inr ⟨_, rfl, valN_18 ht hd.2⟩
   ·rw [if_neg hd]
    exact .inl rfl
  have h18 : (10 : Nat) ^ 18 = 1000000000000000000 := by decide
  have h63 : (2 : Nat) ^ (64 - 1) = 9223372036854775808 := by decide
  rw [h18] at key
  unfold Lib.parseIntB
  by_cases hs : c.toNat = 43 ∨ c.toNat = 45
  ·have hlen : r.length ≤ 18 := by
    by_cases hc : c = 45
    ·subst hc
     have : Lib.trimPrefix (45 :: r) [45] = r := by unfold Lib.trimPrefix Lib.hasPrefix; simp
     rw [this] at h
     omega
    ·have : Lib.trimPrefix (c :: r) [45] = c :: r := by
      unfold Lib.trimPrefix Lib.hasPrefix
      rw [if_neg]
      simp
      exact fun h => hc h.symm
     rw [this] at h
     simp only [List.length_cons] at h
     omega
   simp only [if_pos hs]
   rcases key _ hlen with h1 | ⟨u, h1, h2⟩
   ·right
    rw [h1]
   ·left
    rw [h1]
    simp only [h63]
    rw [if_neg (by omega), if_neg (by omega)]
    by_cases hn : c.toNat = 45
    ·simp only [hn, if_true]
     exact ⟨_, rfl, by omega, by omega⟩
    ·simp only [hn, if_false]
     exact ⟨_, rfl, by omega, by omega⟩
  ·have hlen : (c :: r).length ≤ 18 := by
    have : Lib.trimPrefix (c :: r) [45] = c :: r := by
     unfold Lib.trimPrefix Lib.hasPrefix
     rw [if_neg]
     simp
     rintro rfl
     exact hs (Or.inr rfl)
    rw [this] at h
    omega
   simp only [if_neg hs]
   rcases key _ hlen with h1 | ⟨u, h1, h2⟩
   ·right
    rw [h1]
   ·left
    rw [h1]
    simp only [h63]
    rw [if_neg (by omega), if_neg (by omega)]
    have hn : ¬ c.toNat = 45 := fun e => hs (Or.inr e)
    simp only [hn, if_false]
    exact ⟨_, rfl, by omega, by omega⟩

def numR (o : Option Int) : Value := .tuple #[.int .i64 (o.getD 0), .bool o.isSome]
theorem numP_long {l : List UInt8} (h : 18 < (Lib.trimPrefix l [45]).length) : numP l = none := by unfold numP; rw [if_pos h]
theorem numP_syn {l : List UInt8} (h : Lib.parseIntB 64 l = Lib.NumEnd.syntax) : numP l = none := by unfold numP; rw [h]; split <;> rfl
theorem numP_ok {l : List UInt8} {v : Int} (hl : ¬ 18 < (Lib.trimPrefix l [45]).length) (h : Lib.parseIntB 64 l = .ok v) : numP l = if Lib.itoa v = l then some v else none := by unfold numP; rw [if_neg hl, h]
theorem bytes_eta (s : ByteArray) : (⟨s.data.toList.toArray⟩ : ByteArray) = s := by cases s; simp
theorem bytes_size (l : List UInt8) : (⟨l.toArray⟩ : ByteArray).size = l.length := by simp [ByteArray.size]

end Go.Proofs.YtnhomkmfbngmgaaGreatDoor

namespace Go.Proofs.YtnhomkmfbngmgaaGreatDoor
open Go.ChangeShapes Go.WideShapes Go.ChangeAt Go.RowKit
set_option linter.unusedVariables false

set_option maxRecDepth 100000 in
set_option maxHeartbeats 800000 in
theorem readDecimal_calls (s : ByteArray) (hs : s.size ≤ 1048576) (w : World) (he : Env w) :
  Calls Tryz.prog 115 #[.string s] w fun e w' => e = .returned (numR (numS s.data.toList)) ∧ Below w.heap.size w w' := by
 rw [← numP_eq]
 have q1 : Calls Tryz.prog 213 #[.string s, .string ⟨#[45]⟩] w fun e w' => e = .returned (.string ⟨(Lib.trimPrefix s.data.toList [45]).toArray⟩) ∧ w' = w := Tryz.strings_TrimPrefix s ⟨#[45]⟩ w
 have hsz := bytes_size (Lib.trimPrefix s.data.toList [45])
 generalize (⟨(Lib.trimPrefix s.data.toList [45]).toArray⟩ : ByteArray) = t at *
 replace q1 := hide q1
 by_cases hl : 18 < (Lib.trimPrefix s.data.toList [45]).length
 ·have hv := hide (numP_long hl)
  have hlt : (18 : Int) < (t.size : Int) := by omega
  clear hl hsz he
  go_enter Tryz.func115, Tryz.ntmps115
  go_wp2_with fail
  refine q1.out.mono ?_
  rintro e w1 ⟨rfl, rfl⟩
  go_wp2_with fail
  go_ret2
  exact ⟨by rw [hv.out]; rfl, Below.refl _ _⟩
 ·have hlt : ¬ (18 : Int) < (t.size : Int) := by omega
  clear hsz
  rcases parse_short _ hl with ⟨v, hp, hb0, hb1⟩ | hp
  ·have q2 := hide (((Tryz.strconv_ParseInt_10_at64_ok s (by omega) v hp w).mono fun e w' ⟨a, b⟩ => ⟨a, b.elim (fun h => h ▸ Below.refl _ _) (fun ⟨t, h⟩ => h ▸ Lib.bytesWorld_below _ _ _)⟩ :
    Calls Tryz.prog 214 #[.string s, .int .i64 10, .int .i64 64] w fun e w' => e = .returned (.tuple #[.int .i64 v, .nilIface]) ∧ Below w.heap.size w w'))
   have q3 := hide (fun W (hW : Below w.heap.size w W) => decimal_calls v hb0 hb1 W (he.below hW (Nat.le_refl _)))
   have hv := hide (numP_ok hl hp)
   clear hl hp he hb0 hb1
   by_cases hi : Lib.itoa v = s.data.toList
   ·have hq : (⟨(Lib.itoa v).toArray⟩ : ByteArray) = s := by rw [hi, bytes_eta]
    have hv2 : Hid (numP s.data.toList = some v) := by show _ = _; rw [hv.out, if_pos hi]
    rw [hq] at q3
    clear hv hi hq
    go_enter Tryz.func115, Tryz.ntmps115
    go_wp2_with fail
    refine q1.out.mono ?_
    rintro e w1 ⟨rfl, rfl⟩
    go_wp2_with fail
    refine q2.out.mono ?_
    rintro e w2 ⟨rfl, hb2⟩
    go_wp2_with fail
    refine (q3.out _ hb2).mono ?_
    rintro e w3 ⟨rfl, hb3⟩
    go_wp2_with fail
    go_ret2
    exact ⟨by rw [hv2.out]; rfl, hb2.trans (hb3.mono hb2.size)⟩
   ·have hq : (⟨(Lib.itoa v).toArray⟩ : ByteArray) ≠ s := by
     intro h
     apply hi
     rw [← h]
    have hv2 : Hid (numP s.data.toList = none) := by show _ = _; rw [hv.out, if_neg hi]
    have hne := str_neq hq
    clear hv hi hq
    generalize (⟨(Lib.itoa v).toArray⟩ : ByteArray) = u at *
    go_enter Tryz.func115, Tryz.ntmps115
    go_wp2_with fail
    refine q1.out.mono ?_
    rintro e w1 ⟨rfl, rfl⟩
    go_wp2_with fail
    refine q2.out.mono ?_
    rintro e w2 ⟨rfl, hb2⟩
    go_wp2_with fail
    refine (q3.out _ hb2).mono ?_
    rintro e w3 ⟨rfl, hb3⟩
    go_wp2_with fail
    go_ret2
    exact ⟨by rw [hv2.out]; rfl, hb2.trans (hb3.mono hb2.size)⟩
  ·obtain ⟨tp, p, hvar⟩ := he.good.syn
   have q2 := hide (((Tryz.strconv_ParseInt_10_at64_syntax_var s (by omega) hp tp p w hvar).mono fun e w' ⟨N, a, _, _, b⟩ => ⟨N, a, b⟩ :
    Calls Tryz.prog 214 #[.string s, .int .i64 10, .int .i64 64] w fun e w' => ∃ N, e = .returned (.tuple #[.int .i64 0, .iface 317 (.pointer (some ⟨N, 0, none⟩))]) ∧ Below w.heap.size w w'))
   have hv := hide (numP_syn hp)
   clear hl hp he hvar
   go_enter Tryz.func115, Tryz.ntmps115
   go_wp2_with fail
   refine q1.out.mono ?_
   rintro e w1 ⟨rfl, rfl⟩
   go_wp2_with fail
   refine q2.out.mono ?_
   rintro e w2 ⟨N, rfl, hb2⟩
   go_wp2_with fail
   go_ret2
   exact ⟨by rw [hv.out]; rfl, hb2⟩

end Go.Proofs.YtnhomkmfbngmgaaGreatDoor

namespace Go.Proofs.YtnhomkmfbngmgaaGreatDoor
open Go.ChangeShapes Go.WideShapes Go.ChangeAt Go.RowKit
set_option linter.unusedVariables false

theorem bsize (s : ByteArray) : s.data.toList.length = s.size := by rw [Array.length_toList]; rfl
def mkB (l : List UInt8) : ByteArray := ⟨l.toArray⟩
theorem mkB_data (l : List UInt8) : (mkB l).data.toList = l := rfl
theorem mkB_size (l : List UInt8) : (mkB l).size = l.length := bytes_size l
theorem flat_strv : Flat strv 1 := ⟨fun _ => rfl, fun x u h => by simp [strv] at h; subst h; rfl⟩
theorem elem_str : Elem Tryz.prog 24 9 1 16 := Elem.of Tryz.underlying24 info_string rfl (by decide) (by decide)

theorem splitC_len (c : UInt8) : ∀ l : List UInt8, (splitC c l).length ≤ l.length + 1
 | [] => by simp [splitC]
 | x :: l => by
  have ih := splitC_len c l
  by_cases hx : x = c
  ·subst hx
   rw [splitC_ceq]
   simp only [List.length_cons]
   omega
  ·rw [splitC_cne hx]
   simp only [List.length_cons, List.length_tail]
   omega

end Go.Proofs.YtnhomkmfbngmgaaGreatDoor

namespace Go.Proofs.YtnhomkmfbngmgaaGreatDoor
open Go.ChangeShapes Go.WideShapes Go.ChangeAt Go.RowKit
set_option linter.unusedVariables false

def nameL (l : List UInt8) : Bool := nameB (mkB l)
def labS (s : ByteArray) : Bool := (valsS nameL s.data.toList).isSome
theorem nameL_data (s : ByteArray) : nameL s.data.toList = nameB s := by unfold nameL mkB; rw [bytes_eta]
def actB (s : ByteArray) : Bool := nameB s && !(decide (s = tauB))
theorem tau_list : tauB.toList = [116, 97, 117] := ByteArray.toList_mk _
theorem tau_ne {s : ByteArray} (h : s ≠ tauB) : (s.toList == [116, 97, 117]) = false := by rw [← tau_list]; exact str_neq h

theorem numsOf_none {f : List UInt8 → Option Int} : ∀ {l : List (List UInt8)} {k : Nat} {x : List UInt8}, l[k]? = some x → f x = none → numsOf f l = none
 | [], k, x, h, _ => by simp at h
 | y :: l, 0, x, h, hf => by
  simp at h
  subst h
  unfold numsOf
  rw [hf]
 | y :: l, k + 1, x, h, hf => by
  unfold numsOf
  rw [numsOf_none (l := l) (k := k) (by simpa using h) hf]
  split
  ·rename_i h1; cases h1
  ·rfl
theorem splitC_mem_len (c : UInt8) : ∀ (l x : List UInt8), x ∈ splitC c l → x.length ≤ l.length
 | [], x, h => by simp [splitC] at h; subst h; simp
 | y :: l, x, h => by
  have ih := splitC_mem_len c l
  by_cases hy : y = c
  ·subst hy
   rw [splitC_ceq, List.mem_cons] at h
   rcases h with rfl | h
   ·simp
   ·have := ih x h
    simp only [List.length_cons]
    omega
  ·rw [splitC_cne hy, List.mem_cons] at h
   obtain ⟨p, ps, hp⟩ := List.exists_cons_of_ne_nil (splitC_ne c l)
   rw [hp] at h ih
   simp only [List.headD_cons, List.tail_cons] at h
   rcases h with rfl | h
   ·have := ih p (by simp)
    simp only [List.length_cons]
    omega
   ·have := ih x (List.mem_cons_of_mem _ h)
    simp only [List.length_cons]
    omega
theorem elem_int : Elem Tryz.prog 32 2 1 8 := Elem.of Tryz.underlying32 info_int64 rfl (by decide) (by decide)

theorem labS_miss {s : ByteArray} (hn : (40 : UInt8) ∉ s.data.toList) : labS s = nameB s := by
 unfold labS valsS
 rw [if_pos hn, nameL_data]
 cases nameB s <;> rfl
end Go.Proofs.YtnhomkmfbngmgaaGreatDoor

namespace Go.Proofs.YtnhomkmfbngmgaaGreatDoor
open Go.ChangeShapes Go.WideShapes Go.ChangeAt Go.RowKit
set_option linter.unusedVariables false

def Says (b : Bool) (W : World) (e : Ending) (W' : World) : Prop := e = .returned (.bool b) ∧ Below W.heap.size W W'

theorem any_take_succ {α : Type} {G : α → Bool} {l : List α} {k : Nat} {x : α} (h : (l.take k).any G = false) (hx : l[k]? = some x) (hg : G x = false) : (l.take (k + 1)).any G = false := by
 rw [List.take_add_one, hx, List.any_append, h]
 simp [hg]
theorem any_hit {α : Type} {G : α → Bool} {l : List α} {k : Nat} {x : α} (hx : l[k]? = some x) (hg : G x = true) : l.any G = true :=
 List.any_eq_true.2 ⟨x, List.mem_of_getElem? hx, hg⟩

set_option maxRecDepth 100000 in
theorem indexFuncI_calls (F : FuncId) (caps : Array Value) (G : Int → Bool) (A : Option Addr) (n c : Nat) (l : List Int) (w : World) (lo hi : Nat) (h : SlI w lo hi A n l) (hn : n ≤ 1048576)
  (hF : ∀ (v : Value) (W : World), Sem.run Tryz.prog (callFunc F (#[v] ++ caps)) W = .ok (.enter F (#[v] ++ caps)) W)
  (hcl : ∀ (v : Int) (W : World), Below w.heap.size w W → Calls Tryz.prog F (#[.int .i64 v] ++ caps) W (Says (G v) W)) :
  Calls Tryz.prog 222 #[.slice A n c, .func (.func F) #[] caps] w fun e w' => ∃ i : Int, e = .returned (.int .i64 i) ∧ decide (0 ≤ i) = l.any G ∧ Below w.heap.size w w' := by
 have hlen := hide h.len
 replace hcl := hide hcl
 go_enter Tryz.func222, Tryz.ntmps222
 go_wp2
 go_loopw [8] (fun i wr => ∃ k : Nat, k ≤ n ∧ i = .int .i64 k ∧ Below w.heap.size w wr ∧ Hid ((l.take k).any G = false)) (fun i _ => n - (intOf i).toNat)
 case atStart => exact ⟨0, Nat.zero_le _, rfl, Below.refl _ _, rfl⟩
 case round =>
  obtain ⟨k, hk, rfl, hb, ha⟩ := hrel
  by_cases hlt : k < n
  ·obtain ⟨b, off, x, rfl, g1, g2, g3, hx, c0, -⟩ := h.get hlt
   replace c0 := (hb.cell (p := ⟨b, off + k, none⟩) g3).trans c0
   have hc := hcl.out x wr hb
   replace hx := hide hx
   clear h hcl
   by_cases hg : G x = true
   ·rw [hg] at hc
    replace hc := hide hc
    have hy := hide (any_hit hx.out hg)
    clear hg
    go_wp2_with fail
    refine hc.out.mono ?_
    rintro e w1 ⟨rfl, hb1⟩
    go_wp2_with fail
    go_ret
    exact ⟨_, rfl, by rw [hy.out]; simp, hb.trans (hb1.mono hb.size)⟩
   ·replace hg := Bool.eq_false_iff.2 hg
    rw [hg] at hc
    replace hc := hide hc
    have hy := hide (any_take_succ ha.out hx.out hg)
    clear hg
    go_wp2_with fail
    refine hc.out.mono ?_
    rintro e w1 ⟨rfl, hb1⟩
    go_wp2_with fail
    go_roundw
    case rel => exact ⟨k + 1, by omega, by go_num, hb.trans (hb1.mono hb.size), hy⟩
    case measure => simp [intOf]; omega
  ·have hkn : k = n := by omega
   subst hkn
   clear hcl
   go_wp2
   go_ret
   have hy := ha.out
   rw [List.take_of_length_le (by rw [hlen.out]; exact Nat.le_refl _)] at hy
   exact ⟨_, rfl, by rw [hy]; decide, hb⟩

theorem containsFuncI_calls (F : FuncId) (caps : Array Value) (G : Int → Bool) (A : Option Addr) (n c : Nat) (l : List Int) (w : World) (lo hi : Nat) (h : SlI w lo hi A n l) (hn : n ≤ 1048576)
  (hF : ∀ (v : Value) (W : World), Sem.run Tryz.prog (callFunc F (#[v] ++ caps)) W = .ok (.enter F (#[v] ++ caps)) W)
  (hcl : ∀ (v : Int) (W : World), Below w.heap.size w W → Calls Tryz.prog F (#[.int .i64 v] ++ caps) W (Says (G v) W)) :
  Calls Tryz.prog 151 #[.slice A n c, .func (.func F) #[] caps] w (Says (l.any G) w) := by
 have q := hide (indexFuncI_calls F caps G A n c l w lo hi h hn hF hcl)
 clear h hF hcl
 go_enter Tryz.func151, Tryz.ntmps151
 go_wp2_with fail
 refine q.out.mono ?_
 rintro e w1 ⟨i, rfl, hi, hb⟩
 replace hi := hide hi
 go_wp2_with fail
 go_ret
 exact ⟨ret_b hi.out.symm, hb⟩

end Go.Proofs.YtnhomkmfbngmgaaGreatDoor

namespace Go.Proofs.YtnhomkmfbngmgaaGreatDoor
open Go.ChangeShapes Go.WideShapes Go.ChangeAt Go.RowKit
set_option linter.unusedVariables false

theorem numsOf_snoc {f : List UInt8 → Option Int} : ∀ {l : List (List UInt8)} {ns : List Int} {x : List UInt8} {v : Int}, numsOf f l = some ns → f x = some v → numsOf f (l ++ [x]) = some (ns ++ [v])
 | [], ns, x, v, h, hf => by
  cases h
  show numsOf f [x] = _
  unfold numsOf
  rw [hf]
  rfl
 | y :: l, ns, x, v, h, hf => by
  unfold numsOf at h
  split at h
  ·rename_i n ms hn hm
   cases h
   rw [List.cons_append]
   unfold numsOf
   rw [hn, numsOf_snoc hm hf]
   rfl
  ·cases h

def dataL (l : List ByteArray) : List (List UInt8) := l.map (·.data.toList)
def NumsR (w w' : World) (n : Nat) (o : Option (List Int)) (e : Ending) : Prop :=
 match o with
 | none => e = .returned (.tuple #[.slice none 0 0, .bool false])
 | some ns => ∃ A c, e = .returned (.tuple #[.slice A n c, .bool true]) ∧ SlI w' w.heap.size w'.heap.size A n ns

set_option maxRecDepth 100000 in
set_option maxHeartbeats 800000 in
theorem readNumbers_calls (A : Option Addr) (n c : Nat) (l : List ByteArray) (w : World) (lo hi : Nat) (h : SlS w lo hi A n l) (hn : n ≤ 1048577) (hs : ∀ s ∈ l, s.size ≤ 1048576) (he : Env w) :
  Calls Tryz.prog 51 #[.slice A n c] w fun e w' => NumsR w w' n (numsOf numS (dataL l)) e ∧ Below w.heap.size w w' := by
 have hE := hide elem_int
 have hlen := hide h.len
 replace hs := hide hs
 go_enter Tryz.func51, Tryz.ntmps51
 go_wp2
 go_loopw [4, 11] (fun o i wr => ∃ (k : Nat) (A5 : Option Addr) (c5 : Nat) (L : List Int), k ≤ n ∧ o = .slice A5 k c5 ∧ i = .int .i64 (k : Nat) ∧ Hid (Own 1 iv wr w.heap.size 2 A5 k c5 L) ∧ Hid (numsOf numS ((dataL l).take k) = some L) ∧ Below w.heap.size w wr) (fun _ i _ => n - (intOf i).toNat)
 case atStart => exact ⟨0, none, 0, [], Nat.zero_le _, rfl, rfl, Own.nil_ _ _ _, rfl, Below.refl _ _⟩
 case round =>
  obtain ⟨k, A5, c5, L, hk, rfl, rfl, hown, hall, hb⟩ := hrel
  have hz := hb.size
  by_cases hlt : k < n
  ·obtain ⟨bb, off, x, rfl, g1, g2, g3, hx, cc0, -⟩ := SlS.get h hlt
   replace cc0 := (hb.cell (p := ⟨bb, off + k, none⟩) g3).trans cc0
   have hx2 : (dataL l)[k]? = some x.data.toList := by unfold dataL; rw [List.getElem?_map, hx]; rfl
   have q3 := readDecimal_calls x (hs.out x (List.mem_of_getElem? hx)) wr (he.below hb (Nat.le_refl _))
   have htk : (dataL l).take (k + 1) = (dataL l).take k ++ [x.data.toList] := by rw [List.take_add_one, hx2]; rfl
   cases hnx : numS x.data.toList with
   | none =>
    have hv : Hid (numsOf numS (dataL l) = none) := numsOf_none hx2 hnx
    rw [hnx] at q3
    have q4 : Hid (Calls Tryz.prog 115 #[.string x] wr fun e w' => e = .returned (.tuple #[.int .i64 0, .bool false]) ∧ Below wr.heap.size wr w') := q3
    clear hx hx2 hnx q3 htk hall hown h he
    go_wp2_with fail
    refine q4.out.mono ?_
    rintro e w2 ⟨rfl, hb2⟩
    go_wp2_with fail
    go_ret2
    refine ⟨?_, hb.trans (hb2.mono hz)⟩
    rw [hv.out]
    rfl
   | some v =>
    have hnext : Hid (numsOf numS ((dataL l).take (k + 1)) = some (L ++ [v])) := by
     show _ = _
     rw [htk]
     exact numsOf_snoc hall.out hnx
    rw [hnx] at q3
    have q4 : Hid (Calls Tryz.prog 115 #[.string x] wr fun e w' => e = .returned (.tuple #[.int .i64 v, .bool true]) ∧ Below wr.heap.size wr w') := q3
    clear hx hx2 hnx q3 htk hall h he
    go_wp2_with fail
    refine q4.out.mono ?_
    rintro e w2 ⟨rfl, hb2⟩
    have hown2 := hide (hown.out.below hb2 (Nat.le_refl _))
    have hb3 := hb.trans (hb2.mono hz)
    have hz3 := hb3.size
    have hza : ∀ o, w.heap.size ≤ (w2.alloc o).heap.size := fun o => by rw [World.size_alloc]; omega
    clear hb2 hown
    go_wp2_with (first | (at_builtin; (with_reducible refine wpList_app rfl (.tmp 22) (.tmp 24) rfl hE.out flat_iv rfl (hown2.out.alloc _) rfl (Sl.lit1' w2 2 v _ rfl 1 _ ?c0) ?c1 (hza _) ?_); rotate_right; intro A7 c7 w7 hown7 hgr7 hb7 _))
    case c0 => rfl
    case c1 => omega
    go_roundw
    case rel => exact ⟨k + 1, A7, c7, L ++ [v], by omega, rfl, by go_num, hown7, hnext, (hb3.alloc hz3 _).trans hb7⟩
    case measure => simp [intOf]; omega
  ·have hkn : k = n := by omega
   subst hkn
   have hv : Hid (numsOf numS (dataL l) = some L) := by
    have := hall.out
    rw [List.take_of_length_le (by unfold dataL; rw [List.length_map, hlen.out]; exact Nat.le_refl _)] at this
    exact this
   go_wp2_with fail
   go_ret2
   refine ⟨?_, hb⟩
   rw [hv.out]
   exact ⟨A5, c5, rfl, hown.out.sl flat_iv⟩

theorem isValue_calls (v : Int) (w : World) : Calls Tryz.prog 362 #[.int .i64 v] w fun e w' => e = .returned (.bool (inB v 0 63)) ∧ w = w' := by
 have q := hide (within_calls v 0 63 w)
 go_enter Tryz.func362, Tryz.ntmps362
 go_wp2_with fail
 refine q.out.mono ?_
 rintro e w1 ⟨rfl, rfl⟩
 go_wp2_with fail
 go_ret
 exact ⟨rfl, rfl⟩
theorem areValues1_calls (v : Int) (w : World) : Calls Tryz.prog 361 #[.int .i64 v] w (Says (!(inB v 0 63)) w) := by
 have q := hide (isValue_calls v w)
 go_enter Tryz.func361, Tryz.ntmps361
 go_wp2_with fail
 refine q.out.mono ?_
 rintro e w1 ⟨rfl, rfl⟩
 go_wp2_with fail
 go_ret
 exact ⟨rfl, Below.refl _ _⟩
theorem areValues_calls (A : Option Addr) (n c : Nat) (L : List Int) (w : World) (lo hi : Nat) (h : SlI w lo hi A n L) (hn : n ≤ 1048576) :
  Calls Tryz.prog 317 #[.slice A n c] w (Says (L.all isVal) w) := by
 have q := hide (containsFuncI_calls 361 #[] (fun v => !(inB v 0 63)) A n c L w lo hi h hn (fun v W => by kernel_rfl) (fun v W _ => areValues1_calls v W))
 have hv : Hid (L.all isVal = !(L.any fun v => !(inB v 0 63))) := by
  show _ = _
  have : isVal = fun v => inB v 0 63 := rfl
  rw [this, List.not_any_eq_all_not]
  simp
 clear h
 go_enter Tryz.func317, Tryz.ntmps317
 go_wp2_with fail
 refine q.out.mono ?_
 rintro e w1 ⟨rfl, hb⟩
 go_wp2_with fail
 go_ret
 exact ⟨ret_b (by rw [hv.out]), hb⟩

theorem join_len (sep : List UInt8) (m : Nat) : ∀ xs : List (List UInt8), (∀ x ∈ xs, x.length ≤ m) → (Lib.join xs sep).length ≤ xs.length * (m + sep.length)
 | [], _ => by rw [Lib.join_nil]; simp
 | [x], h => by
  rw [Lib.join_one]
  have := h x (by simp)
  simp
  omega
 | x :: y :: r, h => by
  have ih := join_len sep m (y :: r) (fun z hz => h z (List.mem_cons_of_mem _ hz))
  have hx := h x (by simp)
  rw [join_cons2, List.length_append, List.length_append, List.length_cons, Nat.add_mul]
  omega

def decB (n : Int) : ByteArray := ⟨(Lib.itoa n).toArray⟩
set_option maxRecDepth 100000 in
set_option maxHeartbeats 800000 in
theorem joined_calls (A : Option Addr) (n c : Nat) (L : List Int) (w : World) (lo hi : Nat) (h : SlI w lo hi A n L) (hn : n ≤ 1048576) (hL : ∀ v ∈ L, -9223372036854775808 ≤ v ∧ v ≤ 9223372036854775807) (he : Env w) :
  Calls Tryz.prog 55 #[.slice A n c, .string ⟨#[44]⟩] w fun e w' => e = .returned (.string (mkB (Lib.join (L.map Lib.itoa) [44]))) ∧ Below w.heap.size w w' := by
 obtain ⟨i0, hi0, hz0, hz1, hz2⟩ := info_parts info_string
 have hmk := fun W => make_row (P := Tryz.prog) 24 9 i0 _ _ n Tryz.underlying24 hi0 hz0 hz1 (by rw [hz2]; omega) (by omega) W
 clear hi0 hz0 hz1 hz2
 have hlen := hide h.len
 replace hL := hide hL
 go_enter Tryz.func55, Tryz.ntmps55
 go_wp2
 go_loopw [13] (fun i wr => ∃ k : Nat, k ≤ n ∧ i = .int .i64 k ∧ Below w.heap.size w wr ∧ Fill 1 strv wr w.heap.size 9 n k (L.map decB)) (fun i _ => n - (intOf i).toNat)
 case atStart => exact ⟨0, Nat.zero_le _, rfl, (Below.refl _ _).alloc (Nat.le_refl _) _, Fill.start _ _ _ _ (by simp [madeCells])⟩
 case round =>
  obtain ⟨k, hk, rfl, hb, hf⟩ := hrel
  clear hmk
  by_cases hlt : k < n
  ·obtain ⟨b, off, x, rfl, g1, g2, g3, hx, c0, -⟩ := h.get hlt
   replace c0 := (hb.cell (p := ⟨b, off + k, none⟩) g3).trans c0
   have hxb := hL.out x (List.mem_of_getElem? hx)
   have q := hide (decimal_calls x hxb.1 hxb.2 wr (he.below hb (Nat.le_refl _)))
   have hx2 : Hid ((L.map decB)[k]? = some (decB x)) := by show _ = _; rw [List.getElem?_map, hx]; rfl
   clear h hx hxb he
   go_wp2_with fail
   refine q.out.mono ?_
   rintro e w1 ⟨rfl, hb1⟩
   have hf1 := hf.keep (hb1.block _ hf.lt)
   obtain ⟨v0, d0⟩ := hf1.cell (i := k) (by omega)
   have z0 := hf1.frozen k
   go_wp2_with fail
   go_roundw
   case rel => exact ⟨k + 1, by omega, by go_num, (hb.trans (hb1.mono hb.size)).setCell (Nat.le_refl _) _, hf1.set1 hlt (fun _ => rfl) hx2.out rfl⟩
   case measure => simp [intOf]; omega
  ·have hkn : k = n := by omega
   subst hkn
   have hml : (L.map decB).length = k := by rw [List.length_map]; exact hlen.out
   have hsl := hf.done hml (Nat.le_refl _) hf.lt
   have hdat : (L.map decB).map (·.data.toList) = L.map Lib.itoa := by rw [List.map_map]; rfl
   have hjl := join_len [44] 21 (L.map Lib.itoa) (fun y hy => by
    obtain ⟨v, hv, rfl⟩ := List.mem_map.1 hy
    exact Lib.itoa_length_le v (hL.out v hv).1 (hL.out v hv).2)
   rw [List.length_map, hlen.out, show 21 + ([44] : List UInt8).length = 22 from rfl] at hjl
   have q : Calls Tryz.prog 123 #[.slice (some ⟨w.heap.size, 0, none⟩) k k, .string ⟨#[44]⟩] wr fun e w' => e = .returned (.string (mkB (Lib.join (L.map Lib.itoa) [44]))) ∧ Below wr.heap.size wr w' := by
    have := Tryz.strings_Join w.heap.size 0 k (L.map decB) ⟨#[44]⟩ wr (fun j x hx => by
     have hj : j < k := by rw [← hml]; exact (List.getElem?_eq_some_iff.1 hx).1
     obtain ⟨b, off, e1, _, _, _, hcell⟩ := hsl.at_ (by omega)
     cases e1
     have := (hcell j x hx 0 _ rfl).1
     simpa using this) hf.lt (by rw [hml]; omega) (by rw [hml]; exact Nat.le_refl _) (by
      rw [hdat]
      show (Lib.join (L.map Lib.itoa) [44]).length ≤ _
      omega)
    rw [hml, hdat] at this
    exact this
   replace q := hide q
   clear h hsl hdat hjl he
   go_wp2_with fail
   refine q.out.mono ?_
   rintro e w1 ⟨rfl, hb1⟩
   go_wp2_with fail
   go_ret
   exact ⟨rfl, hb.trans (hb1.mono hb.size)⟩

end Go.Proofs.YtnhomkmfbngmgaaGreatDoor

namespace Go.Proofs.YtnhomkmfbngmgaaGreatDoor
open Go.ChangeShapes Go.WideShapes Go.ChangeAt Go.RowKit
set_option linter.unusedVariables false

theorem nameB_len {s : ByteArray} (h : nameB s = true) : s.size ≤ 10 := by
 unfold nameB at h
 rw [Bool.and_eq_true, decide_eq_true_eq] at h
 exact h.2.2
theorem isAction_calls (s : ByteArray) (w : World) (hs : s.size ≤ 1048576) : Calls Tryz.prog 178 #[.string s] w fun e w' => e = .returned (.bool (actB s)) ∧ w = w' := by
 have q := isName_calls s w (by unfold maxLen; omega)
 by_cases hn : nameB s = true
 ·rw [hn] at q
  replace q := hide q
  by_cases ht : s = tauB
  ·have hv : Hid (actB s = false) := by show _ = _; unfold actB; simp [ht]
   subst ht
   clear hn
   go_enter Tryz.func178, Tryz.ntmps178
   go_wp2_with (first | (go_at_call 250; (with_reducible refine q.out.mono ?_); rintro e w1 ⟨rfl, rfl⟩))
   go_ret
   exact ⟨ret_b (by rw [hv.out, tau_list]; rfl), rfl⟩
  ·have hv : Hid (actB s = true) := by show _ = _; unfold actB; simp [ht, hn]
   have hne := tau_ne ht
   clear hn ht
   go_enter Tryz.func178, Tryz.ntmps178
   go_wp2_with (first | (go_at_call 250; (with_reducible refine q.out.mono ?_); rintro e w1 ⟨rfl, rfl⟩))
   go_ret
   exact ⟨ret_b (by rw [hv.out]), rfl⟩
 ·replace hn := Bool.eq_false_iff.2 hn
  have hv : Hid (actB s = false) := by show _ = _; unfold actB; rw [hn]; rfl
  rw [hn] at q
  replace q := hide q
  clear hn
  go_enter Tryz.func178, Tryz.ntmps178
  go_wp2_with (first | (go_at_call 250; (with_reducible refine q.out.mono ?_); rintro e w1 ⟨rfl, rfl⟩))
  go_ret
  exact ⟨ret_b (by rw [hv.out]), rfl⟩

theorem isVal_bounds {L : List Int} (h : L.all isVal = true) : ∀ v ∈ L, -9223372036854775808 ≤ v ∧ v ≤ 9223372036854775807 := fun v hv => by
 have := (List.all_eq_true.1 h) v hv
 simp [isVal] at this
 omega

def LabR (w w' : World) (o : Option (List UInt8)) (e : Ending) : Prop := ∃ t b, e = .returned (.tuple #[.string t, .bool b]) ∧ o = (if b then some t.data.toList else none) ∧ Below w.heap.size w w'

set_option maxRecDepth 100000 in
set_option maxHeartbeats 800000 in
theorem labelOf_calls (nm : ByteArray) (A : Option Addr) (n c : Nat) (L : List Int) (w : World) (lo hi : Nat) (hs : nm.size ≤ 1048576) (h : SlI w lo hi A n L) (hn : n ≤ 1048577) (he : Env w) :
  Calls Tryz.prog 254 #[.string nm, .slice A n c] w fun e w' => LabR w w' (labOf nameL nm.data.toList L) e := by
 have hlen := h.len
 have hq1 := isAction_calls nm w hs
 by_cases ht : nm = tauB
 ·have htl : nm.data.toList = tauL := by rw [ht]; rfl
  by_cases h0 : n = 0
  ·have hL0 : L = [] := List.eq_nil_of_length_eq_zero (by omega)
   have hv : Hid (labOf nameL nm.data.toList L = some tauL) := by show _ = _; unfold labOf; rw [if_pos htl, if_pos hL0]
   subst h0 ht
   clear hL0 htl hlen hq1 h he
   have htt : (tauB.toList == [116, 97, 117]) = true := by rw [tau_list]; rfl
   go_enter Tryz.func254, Tryz.ntmps254
   go_wp2_with fail
   go_ret2
   exact ⟨tauB, true, rfl, by rw [hv.out]; rfl, Below.refl _ _⟩
  ·have hL0 : L ≠ [] := by rintro rfl; simp at hlen; omega
   have hv : Hid (labOf nameL nm.data.toList L = none) := by show _ = _; unfold labOf; rw [if_pos htl, if_neg hL0]
   have hb0 : ((n : Int) == 0) = false := by rw [beq_eq_false_iff_ne]; omega
   subst ht
   clear hL0 htl hlen hq1 h he
   have htt : (tauB.toList == [116, 97, 117]) = true := by rw [tau_list]; rfl
   go_enter Tryz.func254, Tryz.ntmps254
   go_wp2_with fail
   go_ret2
   exact ⟨tauB, false, rfl, by rw [hv.out]; rfl, Below.refl _ _⟩
 ·have htl : nm.data.toList ≠ tauL := fun e => ht (by rw [← bytes_eta nm, e]; rfl)
  have hact : actB nm = nameB nm := by unfold actB; rw [decide_eq_false ht]; simp
  have hne := tau_ne ht
  have hq2 := areValues_calls A n c L w lo hi h
  cases hnm : nameB nm with
  | false =>
   have hv : Hid (labOf nameL nm.data.toList L = none) := by show _ = _; unfold labOf; rw [if_neg htl, nameL_data, hnm]; rfl
   rw [hact, hnm] at hq1
   replace hq1 := hide hq1
   clear hact htl ht hnm h he hq2 hlen
   go_enter Tryz.func254, Tryz.ntmps254
   go_wp2_with (first | (go_at_call 178; (with_reducible refine hq1.out.mono ?_); rintro e w1 ⟨rfl, rfl⟩))
   go_ret2
   exact ⟨⟨#[]⟩, false, rfl, by rw [hv.out]; rfl, Below.refl _ _⟩
  | true =>
   rw [hact, hnm] at hq1
   replace hq1 := hide hq1
   by_cases h2 : 2 < n
   ·have hv : Hid (labOf nameL nm.data.toList L = none) := by
     show _ = _
     unfold labOf
     rw [if_neg htl, nameL_data, hnm, if_pos (by rw [hlen]; simp [h2])]
    have h2I : (2 : Int) < (n : Int) := by omega
    clear hact htl ht hnm h he hq2 hlen
    go_enter Tryz.func254, Tryz.ntmps254
    go_wp2_with (first | (go_at_call 178; (with_reducible refine hq1.out.mono ?_); rintro e w1 ⟨rfl, rfl⟩))
    go_ret2
    exact ⟨⟨#[]⟩, false, rfl, by rw [hv.out]; rfl, Below.refl _ _⟩
   ·replace hq2 := hq2 (by omega)
    have h2I : ¬ (2 : Int) < (n : Int) := by omega
    have h2L : ¬ 2 < L.length := by omega
    cases hall : L.all isVal with
    | false =>
     have hv : Hid (labOf nameL nm.data.toList L = none) := by
      show _ = _
      unfold labOf
      rw [if_neg htl, nameL_data, hnm, if_pos (by rw [hall]; simp)]
     rw [hall] at hq2
     replace hq2 := hide hq2
     clear hact htl ht hnm h he hlen hall h2 h2L
     go_enter Tryz.func254, Tryz.ntmps254
     go_wp2_with (first | (go_at_call 178; (with_reducible refine hq1.out.mono ?_); rintro e w1 ⟨rfl, rfl⟩) | (go_at_call 317; (with_reducible refine hq2.out.mono ?_); rintro e w2 ⟨rfl, hb2⟩))
     go_ret2
     exact ⟨⟨#[]⟩, false, rfl, by rw [hv.out]; rfl, hb2⟩
    | true =>
     rw [hall] at hq2
     replace hq2 := hide hq2
     have hcond : ¬ ((!(nameL nm.data.toList) || decide (2 < L.length) || !(L.all isVal)) = true) := by rw [nameL_data, hnm, hall, decide_eq_false h2L]; decide
     by_cases h0 : n = 0
     ·have hL0 : L = [] := List.eq_nil_of_length_eq_zero (by omega)
      have hv : Hid (labOf nameL nm.data.toList L = some nm.data.toList) := by
       show _ = _
       unfold labOf
       rw [if_neg htl, if_neg hcond, if_pos hL0]
      subst h0
      clear hact htl ht hnm h he hlen hall h2 h2L hcond hL0
      go_enter Tryz.func254, Tryz.ntmps254
      go_wp2_with (first | (go_at_call 178; (with_reducible refine hq1.out.mono ?_); rintro e w1 ⟨rfl, rfl⟩) | (go_at_call 317; (with_reducible refine hq2.out.mono ?_); rintro e w2 ⟨rfl, hb2⟩))
      go_ret2
      exact ⟨nm, true, rfl, by rw [hv.out]; rfl, hb2⟩
     ·have hL0 : L ≠ [] := by rintro rfl; simp at hlen; omega
      have hb0 : ((n : Int) == 0) = false := by rw [beq_eq_false_iff_ne]; omega
      have q3 := hide (fun (W : World) (hW : Below w.heap.size w W) => joined_calls A n c L W lo hi (h.below hW (.inr (Nat.le_refl _))) (by omega) (isVal_bounds hall) (he.below hW (Nat.le_refl _)))
      have hjl := join_len [44] 21 (L.map Lib.itoa) (fun y hy => by
       obtain ⟨v, hv, rfl⟩ := List.mem_map.1 hy
       exact Lib.itoa_length_le v (isVal_bounds hall v hv).1 (isVal_bounds hall v hv).2)
      rw [List.length_map, show 21 + ([44] : List UInt8).length = 22 from rfl] at hjl
      have hv : Hid (labOf nameL nm.data.toList L = some (nm.data.toList ++ [40] ++ Lib.join (L.map Lib.itoa) [44] ++ [41])) := by
       show _ = _
       unfold labOf
       rw [if_neg htl, if_neg hcond, if_neg hL0]
      have hjs : (mkB (Lib.join (L.map Lib.itoa) [44])).size ≤ 44 := by rw [mkB_size]; omega
      have hnms := nameB_len hnm
      have hjd : Hid ((mkB (Lib.join (L.map Lib.itoa) [44])).data.toList = Lib.join (L.map Lib.itoa) [44]) := rfl
      clear hact htl ht hnm h he hlen hall h2 h2L hcond hL0 hjl
      generalize mkB (Lib.join (L.map Lib.itoa) [44]) = J at *
      go_enter Tryz.func254, Tryz.ntmps254
      go_wp2_with (first | (go_at_call 178; (with_reducible refine hq1.out.mono ?_); rintro e w1 ⟨rfl, rfl⟩) | (go_at_call 317; (with_reducible refine hq2.out.mono ?_); rintro e w2 ⟨rfl, hb2⟩))
      refine (q3.out _ hb2).mono ?_
      rintro e w3 ⟨rfl, hb3⟩
      go_wp2_with fail
      go_ret2
      refine ⟨_, true, rfl, ?_, hb2.trans (hb3.mono hb2.size)⟩
      rw [hv.out, ← hjd.out]
      simp [ByteArray.data_append]

end Go.Proofs.YtnhomkmfbngmgaaGreatDoor

namespace Go.Proofs.YtnhomkmfbngmgaaGreatDoor
open Go.ChangeShapes Go.WideShapes Go.ChangeAt Go.RowKit
set_option linter.unusedVariables false

theorem nameL_tau : nameL tauL = true := by decide
def numsR (l : List UInt8) : Option (List Int) := if (Lib.cut l [40]).2.2 then numsOf numS (splitC 44 (Lib.trimSuffix (Lib.cut l [40]).2.1 [41])) else some []
theorem labS_none {s : ByteArray} (h : numsR s.data.toList = none) : labS s = false := by
 unfold labS
 rw [← valsP_eq nameL nameL_tau]
 unfold valsP
 rw [numP_fun]
 unfold numsR at h
 rw [h]
 rfl
theorem labS_some {s : ByteArray} {ns : List Int} (h : numsR s.data.toList = some ns) : labS s = decide (labOf nameL (Lib.cut s.data.toList [40]).1 ns = some s.data.toList) := by
 unfold labS
 rw [← valsP_eq nameL nameL_tau]
 unfold valsP
 rw [numP_fun]
 unfold numsR at h
 rw [h]
 by_cases hc : labOf nameL (Lib.cut s.data.toList [40]).1 ns = some s.data.toList
 ·simp only [if_pos hc, decide_eq_true hc]
  rfl
 ·simp only [if_neg hc, decide_eq_false hc]
  rfl
theorem Sl.laid (w : World) (t : TypeId) (l : List ByteArray) (lo : Nat) (hlo : lo ≤ w.heap.size) : SlS (w.alloc (.cells (l.map Value.string).toArray t)) lo (w.heap.size + 1) (some ⟨w.heap.size, 0, none⟩) l.length l := by
 refine ⟨rfl, fun _ => ⟨w.heap.size, 0, rfl, hlo, by omega, by simp, fun k x hx j u hu => ?_⟩⟩
 match j, hu with
 | 0, hu =>
  simp [strv] at hu
  subst hu
  simp only [Nat.zero_add, Nat.mul_one, Nat.add_zero]
  have hg := heap_alloc_new w (.cells (l.map Value.string).toArray t)
  refine ⟨(cell_of_row _ _ k _ t (0, 0) hg).trans ?_, frozen_of_row _ _ _ _ t hg⟩
  simp [hx]
theorem split_data (t : ByteArray) : (Lib.splitB ⟨#[44]⟩ 0 (Lib.countB t ⟨#[44]⟩) t).map (·.data.toList) = splitC 44 t.data.toList := by
 rw [Lib.splitB_data, ← split_one]
 rfl
theorem split_calls (t : ByteArray) (w : World) (hs : t.size ≤ 1048576) (he : Env w) :
  Calls Tryz.prog 50 #[.string t, .string ⟨#[44]⟩] w fun e w' => ∃ A n PB, e = .returned (.slice A n n) ∧ SlS w' w.heap.size w'.heap.size A n PB ∧ dataL PB = splitC 44 t.data.toList ∧ n ≤ 1048577 ∧ (∀ s ∈ PB, s.size ≤ 1048576) ∧ Below w.heap.size w w' := by
 have hc := Lib.splitB_all ⟨#[44]⟩ (by decide) 0 _ t rfl
 have hd := split_data t
 refine (Tryz.strings_Split_shaped t ⟨#[44]⟩ w he.good.shape (by omega) (by decide)).mono ?_
 rintro e w' ⟨rfl, rfl⟩
 generalize Lib.splitB ⟨#[44]⟩ 0 (Lib.countB t ⟨#[44]⟩) t = PB at *
 rw [← hc]
 refine ⟨_, _, PB, rfl, ?_, hd, ?_, ?_, (Below.refl _ _).alloc (Nat.le_refl _) _⟩
 ·rw [World.size_alloc]
  exact Sl.laid w _ PB _ (Nat.le_refl _)
 ·have h1 := splitC_len 44 t.data.toList
  rw [← hd, List.length_map, bsize] at h1
  omega
 ·intro s hsm
  have h1 := splitC_mem_len 44 t.data.toList s.data.toList (by rw [← hd]; exact List.mem_map.2 ⟨s, hsm, rfl⟩)
  rw [bsize, bsize] at h1
  omega

def ReadLab (w w' : World) (s : ByteArray) (e : Ending) : Prop := ∃ nm A n c, e = .returned (.tuple #[.string nm, .slice A n c, .bool (labS s)]) ∧ nm = (if labS s then mkB (Lib.cut s.data.toList [40]).1 else ⟨#[]⟩) ∧ Below w.heap.size w w'

set_option maxRecDepth 100000 in
set_option maxHeartbeats 1600000 in
theorem readLabel_calls (s : ByteArray) (w : World) (hs : s.size ≤ 1048576) (he : Env w) :
  Calls Tryz.prog 186 #[.string s] w fun e w' => ReadLab w w' s e := by
 have q0 : Calls Tryz.prog 252 #[.string s, .string ⟨#[40]⟩] w fun e w' => e = .returned (.tuple #[.string (mkB (Lib.cut s.data.toList [40]).1), .string (mkB (Lib.cut s.data.toList [40]).2.1), .bool (Lib.cut s.data.toList [40]).2.2]) ∧ Below w.heap.size w w' :=
  (Tryz.strings_Cut_shaped s ⟨#[40]⟩ w he.good.shape (by omega)).mono fun e w' ⟨a, n, b⟩ => ⟨a, b ▸ below_drewN w n⟩
 have hS := @labS_some s
 have hN := @labS_none s
 have hlen : (Lib.cut s.data.toList [40]).1.length ≤ 1048576 ∧ (Lib.cut s.data.toList [40]).2.1.length ≤ 1048576 := by
  unfold Lib.cut
  have := bsize s
  split <;> simp only [List.length_take, List.length_drop, List.length_nil] <;> omega
 unfold numsR at hS hN
 generalize hcut : Lib.cut s.data.toList [40] = C at *
 obtain ⟨a, b, more⟩ := C
 dsimp only at *
 replace hcut := hide hcut
 have has : (mkB a).size ≤ 1048576 := by rw [mkB_size]; exact hlen.1
 replace q0 := hide q0
 have q5 := fun (A : Option Addr) (n c : Nat) (L : List Int) (W : World) (lo hi : Nat) (h : SlI W lo hi A n L) (hn : n ≤ 1048577) (hW : Below w.heap.size w W) => labelOf_calls (mkB a) A n c L W lo hi has h hn (he.below hW (Nat.le_refl _))
 rw [mkB_data] at q5
 replace q5 := hide q5
 cases more with
 | false =>
  have hS2 := hide (hS (ns := []) rfl)
  clear hS hN he
  go_enter Tryz.func186, Tryz.ntmps186
  go_wp2_with fail
  refine q0.out.mono ?_
  rintro e w1 ⟨rfl, hb1⟩
  go_wp2_with fail
  refine (q5.out none 0 0 [] w1 0 0 Sl.nil_ (by omega) hb1).mono ?_
  rintro e w9 ⟨t, ok, rfl, hok, hb9⟩
  replace hb9 := hb1.trans (hb9.mono hb1.size)
  cases ok with
  | false =>
   have hv : Hid (labS s = false) := by
    show _ = _
    rw [hS2.out, hok]
    simp
   clear hS2 hok
   go_wp2_with fail
   go_returns
   exact ⟨⟨#[]⟩, none, 0, 0, by rw [hv.out]; rfl, by rw [hv.out]; rfl, hb9⟩
  | true =>
   by_cases hts : t = s
   ·have hv : Hid (labS s = true) := by
     show _ = _
     rw [hS2.out, hok, hts]
     simp
    subst hts
    clear hS2 hok
    go_wp2_with fail
    go_returns
    exact ⟨mkB a, none, 0, 0, by rw [hv.out]; rfl, by rw [hv.out, hcut.out]; rfl, hb9⟩
   ·have hv : Hid (labS s = false) := by
     show _ = _
     rw [hS2.out, hok, decide_eq_false_iff_not]
     intro e
     apply hts
     have := Option.some.inj e
     rw [← bytes_eta t, this, bytes_eta]
    have hne := str_neq hts
    clear hS2 hok hts
    go_wp2_with fail
    go_returns
    exact ⟨⟨#[]⟩, none, 0, 0, by rw [hv.out]; rfl, by rw [hv.out]; rfl, hb9⟩
 | true =>
  simp only [if_true] at hS hN
  have q1 : ∀ W, Calls Tryz.prog 253 #[.string (mkB b), .string ⟨#[41]⟩] W fun e w' => e = .returned (.string (mkB (Lib.trimSuffix b [41]))) ∧ w' = W := fun W => Tryz.strings_TrimSuffix (mkB b) ⟨#[41]⟩ W (by rw [mkB_size]; omega)
  have htl : (Lib.trimSuffix b [41]).length ≤ 1048576 := by
   unfold Lib.trimSuffix
   split
   ·rw [List.length_take]; omega
   ·exact hlen.2
  have q2 := fun (W : World) (hW : Below w.heap.size w W) => split_calls (mkB (Lib.trimSuffix b [41])) W (by rw [mkB_size]; exact htl) (he.below hW (Nat.le_refl _))
  rw [mkB_data] at q2
  have q3 := fun (A : Option Addr) (n c : Nat) (l : List ByteArray) (W : World) (lo hi : Nat) (h : SlS W lo hi A n l) (hn : n ≤ 1048577) (hss : ∀ s ∈ l, s.size ≤ 1048576) (hW : Below w.heap.size w W) => readNumbers_calls A n c l W lo hi h hn hss (he.below hW (Nat.le_refl _))
  replace q1 := hide q1
  replace q2 := hide q2
  replace q3 := hide q3
  clear he htl hlen
  cases hns : numsOf numS (splitC 44 (Lib.trimSuffix b [41])) with
  | none =>
   have hv : Hid (labS s = false) := hN hns
   replace hns := hide hns
   clear hS hN q5
   go_enter Tryz.func186, Tryz.ntmps186
   go_wp2_with fail
   refine q0.out.mono ?_
   rintro e w1 ⟨rfl, hb1⟩
   go_wp2_with fail
   refine (q1.out _).mono ?_
   rintro e w2 ⟨rfl, rfl⟩
   go_wp2_with fail
   refine (q2.out _ hb1).mono ?_
   rintro e w3 ⟨A3, n3, PB, rfl, hsl, hdat, hn3, hps, hb3⟩
   replace hb3 := hb1.trans (hb3.mono hb1.size)
   have q4 := q3.out A3 n3 n3 PB w3 _ _ hsl hn3 hps hb3
   rw [hdat, hns.out] at q4
   replace q4 := hide q4
   clear hsl hdat hps
   go_wp2_with fail
   refine q4.out.mono ?_
   rintro e w4 ⟨he4, hb4⟩
   change e = _ at he4
   subst he4
   go_wp2_with fail
   go_returns
   exact ⟨⟨#[]⟩, none, 0, 0, by rw [hv.out]; rfl, by rw [hv.out]; rfl, hb3.trans (hb4.mono hb3.size)⟩
  | some ns =>
   have hS2 := hide (hS hns)
   replace hns := hide hns
   clear hS hN
   go_enter Tryz.func186, Tryz.ntmps186
   go_wp2_with fail
   refine q0.out.mono ?_
   rintro e w1 ⟨rfl, hb1⟩
   go_wp2_with fail
   refine (q1.out _).mono ?_
   rintro e w2 ⟨rfl, rfl⟩
   go_wp2_with fail
   refine (q2.out _ hb1).mono ?_
   rintro e w3 ⟨A3, n3, PB, rfl, hsl, hdat, hn3, hps, hb3⟩
   replace hb3 := hb1.trans (hb3.mono hb1.size)
   have q4 := q3.out A3 n3 n3 PB w3 _ _ hsl hn3 hps hb3
   rw [hdat, hns.out] at q4
   replace q4 := hide q4
   clear hsl hdat hps
   go_wp2_with fail
   refine q4.out.mono ?_
   rintro e w4 ⟨⟨A4, c4, rfl, hs4⟩, hb4⟩
   replace hb4 := hb3.trans (hb4.mono hb3.size)
   replace hs4 := hide hs4
   go_wp2_with fail
   refine (q5.out A4 n3 c4 ns w4 _ _ hs4.out hn3 hb4).mono ?_
   rintro e w9 ⟨t, ok, rfl, hok, hb9⟩
   replace hb9 := hb4.trans (hb9.mono hb4.size)
   cases ok with
   | false =>
    have hv : Hid (labS s = false) := by
     show _ = _
     rw [hS2.out, hok]
     simp
    clear hS2 hok
    go_wp2_with fail
    go_returns
    exact ⟨⟨#[]⟩, none, 0, 0, by rw [hv.out]; rfl, by rw [hv.out]; rfl, hb9⟩
   | true =>
    by_cases hts : t = s
    ·have hv : Hid (labS s = true) := by
      show _ = _
      rw [hS2.out, hok, hts]
      simp
     subst hts
     clear hS2 hok
     go_wp2_with fail
     go_returns
     exact ⟨mkB a, A4, n3, c4, by rw [hv.out]; rfl, by rw [hv.out, hcut.out]; rfl, hb9⟩
    ·have hv : Hid (labS s = false) := by
      show _ = _
      rw [hS2.out, hok, decide_eq_false_iff_not]
      intro e
      apply hts
      have := Option.some.inj e
      rw [← bytes_eta t, this, bytes_eta]
     have hne := str_neq hts
     clear hS2 hok hts
     go_wp2_with fail
     go_returns
     exact ⟨⟨#[]⟩, none, 0, 0, by rw [hv.out]; rfl, by rw [hv.out]; rfl, hb9⟩

theorem isLabel_calls (s : ByteArray) (w : World) (hs : s.size ≤ 1048576) (he : Env w) :
  Calls Tryz.prog 120 #[.string s] w fun e w' => e = .returned (.bool (labS s)) ∧ Below w.heap.size w w' := by
 have q := hide (readLabel_calls s w hs he)
 clear he
 go_enter Tryz.func120, Tryz.ntmps120
 go_wp2_with fail
 refine q.out.mono ?_
 rintro e w1 ⟨nm, A, n, c, rfl, -, hb⟩
 go_wp2_with fail
 go_ret
 exact ⟨rfl, hb⟩

end Go.Proofs.YtnhomkmfbngmgaaGreatDoor

namespace Go.Proofs.YtnhomkmfbngmgaaGreatDoor
open Go.ChangeShapes Go.WideShapes Go.ChangeAt Go.RowKit Go.Sort
set_option linter.unusedVariables false

theorem labS_tau : labS tauB = true := by
 have h : (40 : UInt8) ∉ tauB.data.toList := by decide
 rw [labS_miss h]
 decide
def sLess (a b : ByteArray) : Bool := Op.bytesLess a.toList b.toList
theorem bytesLess_total : ∀ a b : List UInt8, (!(Op.bytesLess a b || a == b)) = Op.bytesLess b a
 | [], [] => rfl
 | [], _ :: _ => by simp [Op.bytesLess]
 | _ :: _, [] => by simp [Op.bytesLess]
 | x :: a, y :: b => by
  have ih := bytesLess_total a b
  simp only [Op.bytesLess]
  by_cases h1 : x = y
  ·subst h1
   have h2 : ¬ x < x := by rw [UInt8.lt_iff_toNat_lt]; omega
   simp only [decide_eq_false h2, Bool.false_or, beq_self_eq_true, Bool.true_and]
   rw [← ih]
   congr 2
   simp
  ·have h3 : ¬ y = x := fun e => h1 e.symm
   have hn : x.toNat ≠ y.toNat := fun e => h1 (UInt8.toNat_inj.1 e)
   by_cases h2 : x < y
   ·have h4 : ¬ y < x := by rw [UInt8.lt_iff_toNat_lt] at h2 ⊢; omega
    simp [h2, h3, h4]
   ·have h4 : y < x := by rw [UInt8.lt_iff_toNat_lt] at h2 ⊢; omega
    simp [h1, h2, h4]
abbrev okL := okLab labS sLess
theorem okL_at {l : List ByteArray} {k : Nat} {x y : ByteArray} (hx : l[k]? = some x) (hk : 0 < k) (hy : l[k - 1]? = some y) : okL l k = ((labS x && !(decide (x = tauB))) && (decide (k ≤ 1) || sLess y x)) := by
 show okLab labS sLess l k = _
 unfold okLab
 rw [hx, hy]
 have : decide (k = 0) = false := decide_eq_false (by omega)
 simp only [this]
 cases h : decide (x = tauB) <;> rfl
theorem okL_zero {l : List ByteArray} {x : ByteArray} (hx : l[0]? = some x) : okL l 0 = decide (x = tauB) := by
 show okLab labS sLess l 0 = _
 unfold okLab
 rw [hx]
 by_cases h : x = tauB
 ·subst h
  simp [labS_tau]
 ·simp [h]
def namesB (l : List ByteArray) : Bool := inB (l.length : Int) 1 12 && allK (okL l) l.length

end Go.Proofs.YtnhomkmfbngmgaaGreatDoor

namespace Go.Proofs.YtnhomkmfbngmgaaGreatDoor
open Go.ChangeShapes Go.WideShapes Go.ChangeAt Go.RowKit Go.Sort
set_option linter.unusedVariables false

theorem same_regrown {f : FuncId} {args : Array Value} {w : World} {v : Value} (h : ∀ W, Calls Tryz.prog f args W fun e w' => e = .returned v ∧ W = w') (d : Nat) (os : Array Obj) :
  Calls Tryz.prog f args (grow (redrawn w d) os) fun e w'' => e = .returned v ∧ ∃ p : Regrown, w'' = grow (redrawn w p.d) p.os := (h _).mono fun _ _ ⟨a, b⟩ => ⟨a, ⟨d, os⟩, b.symm⟩

set_option maxHeartbeats 800000 in
theorem l11Less_calls (b1 o1 b2 o2 : Nat) (x1 x2 x3 y1 y2 y3 : Int) (w : World)
  (c0 : w.cell? ⟨b1, o1, none⟩ = some (.int .i64 x1)) (c1 : w.cell? ⟨b1, o1 + 1, none⟩ = some (.int .i64 x2)) (c2 : w.cell? ⟨b1, o1 + 2, none⟩ = some (.int .i64 x3))
  (d0 : w.cell? ⟨b2, o2, none⟩ = some (.int .i64 y1)) (d1 : w.cell? ⟨b2, o2 + 1, none⟩ = some (.int .i64 y2)) (d2 : w.cell? ⟨b2, o2 + 2, none⟩ = some (.int .i64 y3)) :
  Calls Tryz.prog 232 #[.pointer (some ⟨b1, o1, none⟩), .pointer (some ⟨b2, o2, none⟩)] w fun e w' => e = .returned (.bool (edLess (x1, x2, x3) (y1, y2, y3))) ∧ ∃ m, w' = w.drewN m := by
 by_cases h1 : x1 = y1
 ·subst h1
  by_cases h2 : x2 = y2
  ·subst h2
   have hv : Hid (edLess (x1, x2, x3) (x1, x2, y3) = decide (x3 < y3)) := by show _ = _; simp [edLess]
   go_enter Tryz.func232, Tryz.ntmps232
   go_wp2
   go_quiet (fail)
   go_wp2
   go_quiet (fail)
   go_wp2
   go_quiet (fail)
   go_wp2
   go_ret
   exact ⟨ret_b (by rw [hv.out]), _, by rw [World.drewN_drewN, World.drewN_drewN]⟩
  ·have hv : Hid (edLess (x1, x2, x3) (x1, y2, y3) = decide (x2 < y2)) := by show _ = _; simp [edLess, h2]
   have hq : (x2 != y2) = true := by simpa using h2
   clear h2
   go_enter Tryz.func232, Tryz.ntmps232
   go_wp2
   go_quiet (fail)
   go_wp2
   go_quiet (fail)
   go_wp2
   go_quiet (fail)
   go_wp2
   go_ret
   exact ⟨ret_b (by rw [hv.out]), _, by rw [World.drewN_drewN, World.drewN_drewN]⟩
 ·have hv : Hid (edLess (x1, x2, x3) (y1, y2, y3) = decide (x1 < y1)) := by show _ = _; simp [edLess, h1]
  have hq : (x1 != y1) = true := by simpa using h1
  clear h1
  go_enter Tryz.func232, Tryz.ntmps232
  go_wp2
  go_quiet (fail)
  go_wp2
  go_quiet (fail)
  go_wp2
  go_ret
  exact ⟨ret_b (by rw [hv.out]), _, by rw [World.drewN_drewN]⟩

theorem okE_at {st m : Int} {es : List Ed} {k : Nat} {f lb tg : Int} {r : Ed} (hx : es[k]? = some (f, lb, tg)) (hk : 0 < k) (hy : es[k - 1]? = some r) : okEd st m es k = ((inB f 0 (st - 1) && (inB tg 0 (st - 1) && inB lb 0 (m - 1))) && edLess r (f, lb, tg)) := by
 unfold okEd
 rw [hx, hy]
 have : decide (k = 0) = false := decide_eq_false (by omega)
 simp only [this, Bool.false_or, Bool.and_assoc]
theorem okE_zero {st m : Int} {es : List Ed} {f lb tg : Int} (hx : es[0]? = some (f, lb, tg)) : okEd st m es 0 = (inB f 0 (st - 1) && (inB tg 0 (st - 1) && inB lb 0 (m - 1))) := by
 unfold okEd
 rw [hx]
 simp [Bool.and_assoc]
theorem okE_bad {st m : Int} {es : List Ed} {k : Nat} {f lb tg : Int} (hx : es[k]? = some (f, lb, tg)) (h : (inB f 0 (st - 1) && (inB tg 0 (st - 1) && inB lb 0 (m - 1))) = false) : okEd st m es k = false := by
 unfold okEd
 rw [hx]
 simp only [Bool.and_assoc] at h ⊢
 rw [← Bool.and_assoc, ← Bool.and_assoc, Bool.and_assoc (inB f 0 (st - 1)), h]
 rfl
abbrev ltsV := ltsB labS sLess
theorem ltsV_eq (st ini : Int) (ls : List ByteArray) (es : List Ed) : ltsV (st, ini, ls, es) = ((inB st 1 40 && (inB ini 0 (st - 1) && (namesB ls && decide (es.length ≤ 300)))) && allK (okEd st ls.length es) es.length) := by
 show ltsB labS sLess (st, ini, ls, es) = _
 unfold ltsB namesB
 simp only
 cases inB st 1 40 <;> cases inB ini 0 (st - 1) <;> cases inB (ls.length : Int) 1 12 <;> cases decide (es.length ≤ 300) <;> cases allK (okLab labS sLess ls) ls.length <;> simp

end Go.Proofs.YtnhomkmfbngmgaaGreatDoor

namespace Go.Proofs.YtnhomkmfbngmgaaGreatDoor
open Go.ChangeShapes Go.WideShapes Go.ChangeAt Go.RowKit Go.Sort
set_option linter.unusedVariables false

theorem mem_le_sum : ∀ {l : List Nat} {x : Nat}, x ∈ l → x ≤ l.sum
 | y :: l, x, h => by
  rw [List.sum_cons]
  rcases List.mem_cons.1 h with rfl | h
  ·omega
  ·have := mem_le_sum h
   omega

end Go.Proofs.YtnhomkmfbngmgaaGreatDoor

namespace Go.Proofs.YtnhomkmfbngmgaaGreatDoor
open Go.ChangeShapes Go.WideShapes Go.ChangeAt Go.RowKit Go.Sort
set_option linter.unusedVariables false

theorem flat_ev : Flat ev 3 := ⟨fun _ => rfl, fun x u h => by simp [ev] at h; rcases h with rfl | rfl | rfl <;> rfl⟩
theorem elem_edge : Elem Tryz.prog 25 84 3 24 := Elem.of Tryz.underlying25 info_implEdge rfl (by decide) (by decide)
def outE (es : List Ed) (s : Int) : List Ed := es.filter fun e => decide (e.1 = s)
theorem outE_succ {es : List Ed} {k : Nat} {e : Ed} {s : Int} (hx : es[k]? = some e) : outE (es.take (k + 1)) s = outE (es.take k) s ++ (if e.1 = s then [e] else []) := by
 unfold outE
 rw [List.take_add_one, hx, List.filter_append]
 congr 1
 by_cases h : e.1 = s <;> simp [h]

end Go.Proofs.YtnhomkmfbngmgaaGreatDoor

namespace Go.Proofs.YtnhomkmfbngmgaaGreatDoor
open Go.ChangeShapes Go.WideShapes Go.ChangeAt Go.RowKit Go.Sort
set_option linter.unusedVariables false

theorem isNaN_calls (x : Int) (w : World) : Calls Tryz.prog 274 #[.int .i64 x] w fun e w' => e = .returned (.bool false) ∧ w = w' := by
 go_enter Tryz.func274, Tryz.ntmps274
 go_wp2
 go_ret
 exact ⟨by simp, rfl⟩
def cmpI (x y : Int) : Int := if x < y then -1 else if y < x then 1 else 0
theorem compare_calls (x y : Int) (w : World) : Calls Tryz.prog 216 #[.int .i64 x, .int .i64 y] w fun e w' => e = .returned (.int .i64 (cmpI x y)) ∧ w = w' := by
 have q := hide isNaN_calls
 by_cases h1 : x < y
 ·have hv : Hid (cmpI x y = -1) := by show _ = _; unfold cmpI; rw [if_pos h1]
  go_enter Tryz.func216, Tryz.ntmps216
  go_wp2_with (first | (go_at_call 274; (with_reducible refine (q.out _ _).mono ?_); rintro e w' ⟨rfl, rfl⟩))
  go_ret
  exact ⟨ret_i (by rw [hv.out]), rfl⟩
 ·by_cases h2 : y < x
  ·have hv : Hid (cmpI x y = 1) := by show _ = _; unfold cmpI; rw [if_neg h1, if_pos h2]
   go_enter Tryz.func216, Tryz.ntmps216
   go_wp2_with (first | (go_at_call 274; (with_reducible refine (q.out _ _).mono ?_); rintro e w' ⟨rfl, rfl⟩))
   go_ret
   exact ⟨ret_i (by rw [hv.out]), rfl⟩
  ·have hv : Hid (cmpI x y = 0) := by show _ = _; unfold cmpI; rw [if_neg h1, if_neg h2]
   go_enter Tryz.func216, Tryz.ntmps216
   go_wp2_with (first | (go_at_call 274; (with_reducible refine (q.out _ _).mono ?_); rintro e w' ⟨rfl, rfl⟩))
   go_ret
   exact ⟨ret_i (by rw [hv.out]), rfl⟩

def orF (l : List Int) : Int := (l.find? fun x => decide (x ≠ 0)).getD 0
theorem orF_hit {l : List Int} {k : Nat} {x : Int} (hx : l[k]? = some x) (h0 : x ≠ 0) (hn : ∀ j y, j < k → l[j]? = some y → y = 0) : orF l = x := by
 unfold orF
 have key : ∀ (l : List Int) (k : Nat), l[k]? = some x → (∀ j y, j < k → l[j]? = some y → y = 0) → l.find? (fun x => decide (x ≠ 0)) = some x := by
  intro l
  induction l with
  | nil => intro k h _; simp at h
  | cons y l ih =>
   intro k h hn
   cases k with
   | zero =>
    simp at h
    subst h
    simp [h0]
   | succ k =>
    have hy := hn 0 y (by omega) rfl
    subst hy
    simp only [List.find?_cons]
    simp
    have := ih k (by simpa using h) (fun j z hj hz => hn (j + 1) z (by omega) (by simpa using hz))
    simpa using this
 rw [key l k hx hn]
 rfl
theorem orF_miss {l : List Int} (hn : ∀ (j : Nat) y, l[j]? = some y → y = 0) : orF l = 0 := by
 unfold orF
 have : l.find? (fun x => decide (x ≠ 0)) = none := by
  rw [List.find?_eq_none]
  intro x hx
  obtain ⟨j, hj⟩ := List.getElem?_of_mem hx
  simp [hn j x hj]
 rw [this]
 rfl
theorem or_calls (A : Option Addr) (n c : Nat) (l : List Int) (w : World) (lo hi : Nat) (h : SlI w lo hi A n l) (hn : n ≤ 1048576) :
  Calls Tryz.prog 215 #[.slice A n c] w fun e w' => e = .returned (.int .i64 (orF l)) ∧ w = w' := by
 have hlen := hide h.len
 replace h := hide h
 go_enter Tryz.func215, Tryz.ntmps215
 go_wp2
 go_loop [8] (fun i => ∃ k : Nat, k ≤ n ∧ i = .int .i64 k ∧ Hid (∀ j y, j < k → l[j]? = some y → y = 0)) (fun i => n - (intOf i).toNat)
 case atStart => exact ⟨0, Nat.zero_le _, rfl, fun j y hj => absurd hj (by omega)⟩
 case round =>
  obtain ⟨k, hk, rfl, ha⟩ := hrel
  by_cases hlt : k < n
  ·obtain ⟨b, off, x, rfl, g1, g2, g3, hx, c0, -⟩ := SlI.get h.out hlt
   by_cases h0 : x = 0
   ·have hnext : Hid (∀ j y, j < k + 1 → l[j]? = some y → y = 0) := fun j y hj hy => by
     rcases Nat.lt_or_ge j k with h1 | h1
     ·exact ha.out j y h1 hy
     ·have hjk : j = k := by omega
      rw [hjk, hx] at hy
      rw [← Option.some.inj hy, h0]
    subst h0
    clear h hx ha
    go_wp2
    go_round
    case rel => exact ⟨k + 1, by omega, by go_num, hnext⟩
    case measure => simp [intOf]; omega
   ·have hv : Hid (orF l = x) := orF_hit hx h0 ha.out
    have hb : (x == 0) = false := by rw [beq_eq_false_iff_ne]; exact h0
    clear h hx ha h0
    go_wp2
    go_ret
    exact ⟨ret_i (by rw [hv.out]), rfl⟩
  ·have hkn : k = n := by omega
   have hv : Hid (orF l = 0) := orF_miss fun j y hy => ha.out j y (by rw [hkn, ← hlen.out]; exact (List.getElem?_eq_some_iff.1 hy).1) hy
   subst hkn
   go_wp2
   go_ret
   exact ⟨ret_i (by rw [hv.out]), rfl⟩
def cmpE (a b : Ed) : Int := orF [cmpI a.1 b.1, cmpI a.2.1 b.2.1, cmpI a.2.2 b.2.2]
theorem cmpE_less (a b : Ed) : decide (0 ≤ cmpE a b) = !(edLess a b) := by
 obtain ⟨a1, a2, a3⟩ := a
 obtain ⟨b1, b2, b3⟩ := b
 have key : ∀ x y : Int, (x < y ∧ cmpI x y = -1) ∨ (x = y ∧ cmpI x y = 0) ∨ (y < x ∧ cmpI x y = 1) := fun x y => by
  unfold cmpI
  rcases Int.lt_trichotomy x y with h | h | h
  ·exact .inl ⟨h, if_pos h⟩
  ·exact .inr (.inl ⟨h, by rw [if_neg (by omega), if_neg (by omega)]⟩)
  ·exact .inr (.inr ⟨h, by rw [if_neg (by omega), if_pos h]⟩)
 unfold cmpE edLess orF
 dsimp only
 rcases key a1 b1 with ⟨h1, e1⟩ | ⟨h1, e1⟩ | ⟨h1, e1⟩
 ·have : a1 ≠ b1 := by omega
  rw [e1]
  simp [this, h1]
 ·rcases key a2 b2 with ⟨h2, e2⟩ | ⟨h2, e2⟩ | ⟨h2, e2⟩
  ·have : a2 ≠ b2 := by omega
   rw [e1, e2]
   simp [h1, this, h2]
  ·rcases key a3 b3 with ⟨h3, e3⟩ | ⟨h3, e3⟩ | ⟨h3, e3⟩
   ·rw [e1, e2, e3]
    simp [h1, h2, h3]
   ·rw [e1, e2, e3]
    simp [h1, h2, h3]
   ·have : b3 ≤ a3 := by omega
    rw [e1, e2, e3]
    simp [h1, h2, this]
  ·have n2 : a2 ≠ b2 := by omega
   have : b2 ≤ a2 := by omega
   rw [e1, e2]
   simp [h1, n2, this]
 ·have n1 : a1 ≠ b1 := by omega
  have : b1 ≤ a1 := by omega
  rw [e1]
  simp [n1, this]

theorem or3_calls (b : Nat) (c1 c2 c3 : Int) (t : TypeId) (w : World) (hb : w.heap[b]? = some (.cells #[.int .i64 c1, .int .i64 c2, .int .i64 c3] t (0, 0))) :
  Calls Tryz.prog 215 #[.slice (some ⟨b, 0, none⟩) 3 3] w fun e w' => e = .returned (.int .i64 (orF [c1, c2, c3])) ∧ w = w' := by
 have hlt : b < w.heap.size := (Array.getElem?_eq_some_iff.1 hb).1
 refine or_calls _ 3 3 [c1, c2, c3] w 0 w.heap.size ⟨rfl, fun _ => ⟨b, 0, rfl, Nat.zero_le _, hlt, hlt, fun k x hx j u hu => ?_⟩⟩ (by omega)
 match j, hu with
 | 0, hu =>
  simp [iv] at hu
  subst hu
  simp only [Nat.zero_add, Nat.mul_one, Nat.add_zero]
  refine ⟨(cell_of_row _ _ k _ t (0, 0) hb).trans ?_, frozen_of_row _ _ _ _ t hb⟩
  match k, hx with
  | 0, hx => cases hx; rfl
  | 1, hx => cases hx; rfl
  | 2, hx => cases hx; rfl
  | k + 3, hx => simp at hx

theorem isState_calls (s0 s1 k : Int) (v2 v3 : Value) (w : World) (h1 : 1 ≤ s0) (h2 : s0 ≤ 40) :
  Calls Tryz.prog 119 #[.agg #[.int .i64 s0, .int .i64 s1, v2, v3], .int .i64 k] w fun e w' => e = .returned (.bool (inB k 0 (s0 - 1))) ∧ Below w.heap.size w w' := by
 have hb0 : Below w.heap.size w (w.alloc (.cells #[.int .i64 s0, .int .i64 s1, v2, v3] 27)) := (Below.refl _ _).alloc (Nat.le_refl _) _
 have q := hide (fun W => within_calls k 0 (s0 - 1) W)
 replace hb0 := hide hb0
 go_enter Tryz.func119, Tryz.ntmps119
 go_wp2_with (first | (go_at_call 118; (with_reducible refine (q.out _).mono ?_); rintro e w' ⟨rfl, rfl⟩))
 go_ret
 exact ⟨rfl, hb0.out⟩

set_option maxRecDepth 100000 in
set_option maxHeartbeats 1600000 in
theorem compareEdges_calls (x1 x2 x3 y1 y2 y3 : Int) (w : World) :
  Calls Tryz.prog 122 #[.agg #[.int .i64 x1, .int .i64 x2, .int .i64 x3], .agg #[.int .i64 y1, .int .i64 y2, .int .i64 y3]] w fun e w' => e = .returned (.int .i64 (cmpE (x1, x2, x3) (y1, y2, y3))) ∧ Below w.heap.size w w' := by
 have hv : Hid (cmpE (x1, x2, x3) (y1, y2, y3) = orF [cmpI x1 y1, cmpI x2 y2, cmpI x3 y3]) := rfl
 have hbA : Below w.heap.size w ((w.alloc (.cells #[.int .i64 x1, .int .i64 x2, .int .i64 x3] 84)).alloc (.cells #[.int .i64 y1, .int .i64 y2, .int .i64 y3] 84)) := ((Below.refl _ _).alloc (Nat.le_refl _) _).alloc (by simp only [World.size_alloc]; omega) _
 have k0 := (Below.heap_alloc (w.alloc (.cells #[.int .i64 x1, .int .i64 x2, .int .i64 x3] 84)) (.cells #[.int .i64 y1, .int .i64 y2, .int .i64 y3] 84) w.heap.size (by simp only [World.size_alloc]; omega)).trans (heap_alloc_new w (.cells #[.int .i64 x1, .int .i64 x2, .int .i64 x3] 84))
 have k1 := heap_alloc_new (w.alloc (.cells #[.int .i64 x1, .int .i64 x2, .int .i64 x3] 84)) (.cells #[.int .i64 y1, .int .i64 y2, .int .i64 y3] 84)
 rw [World.size_alloc] at k1
 have q := hide compare_calls
 replace hbA := hide hbA
 replace k0 := hide k0
 replace k1 := hide k1
 go_enter Tryz.func122, Tryz.ntmps122
 go_wp2_with fail
 generalize hW : ((w.alloc (.cells #[.int .i64 x1, .int .i64 x2, .int .i64 x3] 84)).alloc (.cells #[.int .i64 y1, .int .i64 y2, .int .i64 y3] 84)) = W at *
 have a0 : W.cell? ⟨w.heap.size, 0, none⟩ = some (.int .i64 x1) := (cell_of_row _ _ 0 _ _ (0, 0) k0.out).trans rfl
 have a1 : W.cell? ⟨w.heap.size, 1, none⟩ = some (.int .i64 x2) := (cell_of_row _ _ 1 _ _ (0, 0) k0.out).trans rfl
 have a2 : W.cell? ⟨w.heap.size, 2, none⟩ = some (.int .i64 x3) := (cell_of_row _ _ 2 _ _ (0, 0) k0.out).trans rfl
 have b0 : W.cell? ⟨w.heap.size + 1, 0, none⟩ = some (.int .i64 y1) := (cell_of_row _ _ 0 _ _ (0, 0) k1.out).trans rfl
 have b1 : W.cell? ⟨w.heap.size + 1, 1, none⟩ = some (.int .i64 y2) := (cell_of_row _ _ 1 _ _ (0, 0) k1.out).trans rfl
 have b2 : W.cell? ⟨w.heap.size + 1, 2, none⟩ = some (.int .i64 y3) := (cell_of_row _ _ 2 _ _ (0, 0) k1.out).trans rfl
 clear hW
 go_region_held3 (fun w' => w'.cell? ⟨w.heap.size, 0, none⟩ = some (.int .i64 x1) ∧ w'.cell? ⟨w.heap.size, 1, none⟩ = some (.int .i64 x2) ∧ w'.cell? ⟨w.heap.size, 2, none⟩ = some (.int .i64 x3) ∧ w'.cell? ⟨w.heap.size + 1, 0, none⟩ = some (.int .i64 y1) ∧ w'.cell? ⟨w.heap.size + 1, 1, none⟩ = some (.int .i64 y2) ∧ w'.cell? ⟨w.heap.size + 1, 2, none⟩ = some (.int .i64 y3)) (first | exact ⟨a0, a1, a2, b0, b1, b2⟩ | go_keep)
  (first
   | (go_at_call 216; (with_reducible refine (q.out _ _ _).mono ?_); rintro e w' ⟨rfl, rfl⟩)
   | (go_at_call 215; (refine (or3_calls _ _ _ _ _ _ (by exact heap_alloc_new W _)).mono ?_); rintro e w' ⟨rfl, rfl⟩))
 all_goals go_wp2
 all_goals go_ret
 all_goals first | exact ⟨ret_i (by rw [hv.out]), hbA.out.drew.alloc hbA.out.size _⟩ | exact ⟨ret_i (by rw [hv.out]), (hbA.out.alloc hbA.out.size _).drew⟩

end Go.Proofs.YtnhomkmfbngmgaaGreatDoor

namespace Go.Proofs.YtnhomkmfbngmgaaGreatDoor
open Go.ChangeShapes Go.WideShapes Go.ChangeAt Go.RowKit
set_option linter.unusedVariables false
set_option linter.unusedSimpArgs false

theorem edLess_iff (a b : Ed) : edLess a b = true ↔ a.1 < b.1 ∨ (a.1 = b.1 ∧ (a.2.1 < b.2.1 ∨ (a.2.1 = b.2.1 ∧ a.2.2 < b.2.2))) := by
 unfold edLess
 by_cases h1 : a.1 = b.1
 ·by_cases h2 : a.2.1 = b.2.1
  ·simp [h1, h2]
  ·simp [h1, h2]
 ·simp [h1]
theorem edLess_irr (a : Ed) : edLess a a = false := Bool.eq_false_iff.2 fun h => by rw [edLess_iff] at h; omega
theorem edLess_trans {a b c : Ed} (h : edLess a b = true) (g : edLess b c = true) : edLess a c = true := by
 rw [edLess_iff] at h g ⊢; omega
theorem edLess_total {a b : Ed} (h : a ≠ b) : edLess a b = true ∨ edLess b a = true := by
 rw [edLess_iff, edLess_iff]
 by_cases h1 : a.1 = b.1
 ·by_cases h2 : a.2.1 = b.2.1
  ·by_cases h3 : a.2.2 = b.2.2
   ·exact absurd (Prod.ext h1 (Prod.ext h2 h3)) h
   ·omega
  ·omega
 ·omega
def RisE (l : List Ed) : Prop := l.Pairwise fun x y => edLess x y = true
def PutO (l : List Ed) (e : Ed) (l' : List Ed) : Prop := RisE l' ∧ (∀ x, x ∈ l' ↔ x = e ∨ x ∈ l) ∧ l'.length ≤ l.length + 1
theorem PutO.old {l : List Ed} {e : Ed} (h : RisE l) (he : e ∈ l) : PutO l e l := ⟨h, fun x => ⟨.inr, fun g => by rcases g with rfl | g; exact he; exact g⟩, by omega⟩
theorem PutO.new {l : List Ed} {e : Ed} (h : RisE l) {k : Nat} (hlo : k = 0 ∨ ∃ y, l[k - 1]? = some y ∧ edLess y e = true) (hhi : ∀ j x, k ≤ j → l[j]? = some x → edLess e x = true) : PutO l e (l.take k ++ e :: l.drop k) := by
 have hlow : ∀ x ∈ l.take k, edLess x e = true := fun x hx => by
  obtain ⟨j, hj⟩ := List.getElem?_of_mem hx
  rw [List.getElem?_take] at hj
  split at hj
  ·rename_i hjk
   rcases hlo with rfl | ⟨y, hy, hye⟩
   ·omega
   ·by_cases e1 : j = k - 1
    ·subst e1
     rw [hy] at hj
     injection hj with hj
     rw [← hj]; exact hye
    ·have hj2 := (List.getElem?_eq_some_iff.1 hj)
     have hy2 := (List.getElem?_eq_some_iff.1 hy)
     have := List.pairwise_iff_getElem.1 h j (k - 1) hj2.1 hy2.1 (by omega)
     rw [hj2.2, hy2.2] at this
     exact edLess_trans this hye
  ·cases hj
 have hhigh : ∀ x ∈ l.drop k, edLess e x = true := fun x hx => by
  obtain ⟨j, hj⟩ := List.getElem?_of_mem hx
  rw [List.getElem?_drop] at hj
  exact hhi (k + j) x (by omega) hj
 have hsplit : ∀ x, x ∈ l ↔ x ∈ l.take k ∨ x ∈ l.drop k := fun x => by rw [← List.mem_append, List.take_append_drop]
 refine ⟨?_, fun x => ?_, by simp only [List.length_append, List.length_cons, List.length_take, List.length_drop]; omega⟩
 ·have hl : (l.take k ++ l.drop k).Pairwise fun x y => edLess x y = true := by rw [List.take_append_drop]; exact h
  obtain ⟨p1, p2, p3⟩ := List.pairwise_append.1 hl
  refine List.pairwise_append.2 ⟨p1, List.pairwise_cons.2 ⟨hhigh, p2⟩, fun a ha b hb => ?_⟩
  rcases List.mem_cons.1 hb with rfl | hb
  ·exact hlow a ha
  ·exact p3 a ha b hb
 ·rw [List.mem_append, List.mem_cons, hsplit]
  constructor
  ·rintro (g | g | g)
   ·exact .inr (.inl g)
   ·exact .inl g
   ·exact .inr (.inr g)
  ·rintro (g | g | g)
   ·exact .inr (.inl g)
   ·exact .inl g
   ·exact .inr (.inr g)
section
variable {α : Type} {out : List α} {i : Nat} {z x : α}
theorem shiftG_set (hx : out[i]? = some x) : (out.take (i + 1) ++ z :: out.drop (i + 1)).set (i + 1) x = out.take i ++ x :: out.drop i := by
 obtain ⟨hi, hxe⟩ := List.getElem?_eq_some_iff.1 hx
 have h1 : out.drop i = x :: out.drop (i + 1) := by rw [List.drop_eq_getElem_cons hi, hxe]
 rw [List.set_append_right _ _ (by rw [List.length_take]; omega), List.length_take, Nat.min_eq_left (by omega), Nat.sub_self, List.set_cons_zero, List.take_add_one, hx, h1]
 simp
theorem shiftG_end (hi : i ≤ out.length) : (out.take i ++ z :: out.drop i).set i x = out.take i ++ x :: out.drop i := by
 rw [List.set_append_right _ _ (by rw [List.length_take]; omega), List.length_take, Nat.min_eq_left (by omega), Nat.sub_self, List.set_cons_zero]
theorem shiftG_get (hx : out[i]? = some x) : (out.take (i + 1) ++ z :: out.drop (i + 1))[i]? = some x := by
 obtain ⟨hi, hxe⟩ := List.getElem?_eq_some_iff.1 hx
 rw [List.getElem?_append_left (by rw [List.length_take]; omega), List.getElem?_take, if_pos (by omega), hx]
end
theorem ev_set : ∀ (l : List Ed) (k : Nat) (x y z : Int), (((l.flatMap ev).set (k * 3) (.int .i64 x)).set (k * 3 + 1) (.int .i64 y)).set (k * 3 + 2) (.int .i64 z) = (l.set k (x, y, z)).flatMap ev
 | [], _, _, _, _ => rfl
 | a :: l, 0, x, y, z => by simp [ev]
 | a :: l, k + 1, x, y, z => by
  have e0 : (k + 1) * 3 = k * 3 + 1 + 1 + 1 := by omega
  have e1 : (k + 1) * 3 + 1 = k * 3 + 1 + 1 + 1 + 1 := by omega
  have e2 : (k + 1) * 3 + 2 = k * 3 + 2 + 1 + 1 + 1 := by omega
  have ih := ev_set l k x y z
  rw [List.set_cons_succ, List.flatMap_cons, List.flatMap_cons, ← ih]
  unfold ev
  rw [e2, e1, e0]
  rfl
theorem Own.setE {w : World} {base g n c : Nat} {e : TypeId} {l : List Ed} (h : Own 3 ev w base e (some ⟨g, 0, none⟩) n c l) (k : Nat) (x y z : Int) :
  Own 3 ev (((w.setCell ⟨g, k * 3, none⟩ (.int .i64 x)).setCell ⟨g, k * 3 + 1, none⟩ (.int .i64 y)).setCell ⟨g, k * 3 + 2, none⟩ (.int .i64 z)) base e (some ⟨g, 0, none⟩) n c (l.set k (x, y, z)) := by
 rcases h.2.2 with ⟨hv, -⟩ | ⟨g', cap, cur, hv, hb, hg, hnc, hcm, hcs, htake⟩
 ·cases hv
 ·cases hv
  have h1 := heap_setCell_same w g (k * 3) cur _ (.int .i64 x) hg
  have h2 := heap_setCell_same _ g (k * 3 + 1) _ _ (.int .i64 y) h1
  have h3 := heap_setCell_same _ g (k * 3 + 2) _ _ (.int .i64 z) h2
  refine ⟨by rw [List.length_set]; exact h.1, by rw [flat_length flat_ev, List.length_set]; have := h.1; omega, .inr ⟨g, c, _, rfl, hb, h3, hnc, hcm, by simpa using hcs, ?_⟩⟩
  rw [Array.toList_setIfInBounds, Array.toList_setIfInBounds, Array.toList_setIfInBounds, List.take_set, List.take_set, List.take_set, htake]
  exact ev_set l k x y z
theorem Own.neE {w : World} {base e n c : Nat} {A : Option Addr} {l : List Ed} (h : Own 3 ev w base e A n c l) (hn : 0 < n) : ∃ g, A = some ⟨g, 0, none⟩ ∧ base ≤ g := by
 rcases h.2.2 with ⟨-, hv⟩ | ⟨g, cap, cur, hv, hb, -⟩
 ·omega
 ·cases hv
  exact ⟨g, rfl, hb⟩

end Go.Proofs.YtnhomkmfbngmgaaGreatDoor

namespace Go.Proofs
open Go.Shelf
def Tryz.laysSortG_ren : Go.Shelf.Ren := ⟨fun | 6 => 132 | 15 => 224 | 14 => 223 | 28 => 289 | 29 => 290 | 20 => 281 | 21 => 282 | 22 => 283 | 23 => 284 | 24 => 285 | 25 => 286 | 26 => 287 | 27 => 288 | 46 => 339 | 47 => 340 | 48 => 341 | 49 => 342 | 50 => 343 | 57 => 374 | n => n, fun | 22 => 25 | 24 => 84 | 25 => 147 | 3 => 3 | 39 => 243 | 0 => 0 | 53 => 292 | 55 => 137 | 4 => 4 | 46 => 285 | 45 => 284 | 50 => 289 | 5 => 5 | 9 => 9 | 66 => 327 | 70 => 331 | 76 => 352 | 77 => 353 | n => n, fun | n => n⟩
theorem Tryz.laysSortG : Go.Proofs.SlLaysF0.n6 Tryz.prog Tryz.laysSortG_ren := {
 mixed := by kernel_rfl
 f6 := ⟨Tryz.f132.name, by decide, Tryz.func132.trans (congrArg some (by kernel_rfl))⟩
 f14 := ⟨Tryz.f223.name, by decide, Tryz.func223.trans (congrArg some (by kernel_rfl))⟩
 f15 := Tryz.func224.trans (congrArg some (by kernel_rfl))
 f20 := ⟨Tryz.f281.name, by decide, Tryz.func281.trans (congrArg some (by kernel_rfl))⟩
 f21 := ⟨Tryz.f282.name, by decide, Tryz.func282.trans (congrArg some (by kernel_rfl))⟩
 f22 := ⟨Tryz.f283.name, by decide, Tryz.func283.trans (congrArg some (by kernel_rfl))⟩
 f23 := ⟨Tryz.f284.name, by decide, Tryz.func284.trans (congrArg some (by kernel_rfl))⟩
 f24 := ⟨Tryz.f285.name, by decide, Tryz.func285.trans (congrArg some (by kernel_rfl))⟩
 f25 := ⟨Tryz.f286.name, by decide, Tryz.func286.trans (congrArg some (by kernel_rfl))⟩
 f26 := ⟨Tryz.f287.name, by decide, Tryz.func287.trans (congrArg some (by kernel_rfl))⟩
 f27 := ⟨Tryz.f288.name, by decide, Tryz.func288.trans (congrArg some (by kernel_rfl))⟩
 f28 := Tryz.func289.trans (congrArg some (by kernel_rfl))
 f29 := Tryz.func290.trans (congrArg some (by kernel_rfl))
 f46 := ⟨Tryz.f339.name, by decide, Tryz.func339.trans (congrArg some (by kernel_rfl))⟩
 f47 := Tryz.func340.trans (congrArg some (by kernel_rfl))
 f48 := Tryz.func341.trans (congrArg some (by kernel_rfl))
 f49 := ⟨Tryz.f342.name, by decide, Tryz.func342.trans (congrArg some (by kernel_rfl))⟩
 f50 := ⟨Tryz.f343.name, by decide, Tryz.func343.trans (congrArg some (by kernel_rfl))⟩
 f57 := ⟨Tryz.f374.name, by decide, Tryz.func374.trans (congrArg some (by kernel_rfl))⟩
 t0 := Tryz.underlying0
 a0 := Tryz.isAgg0
 z0 := Tryz.sizeOf0
 v0 := Tryz.zeroValue0
 t3 := Tryz.underlying3
 a3 := Tryz.isAgg3
 z3 := Tryz.sizeOf3
 v3 := Tryz.zeroValue3
 t4 := Tryz.underlying4
 a4 := Tryz.isAgg4
 z4 := Tryz.sizeOf4
 v4 := Tryz.zeroValue4
 t5 := Tryz.underlying5
 a5 := Tryz.isAgg5
 z5 := Tryz.sizeOf5
 v5 := Tryz.zeroValue5
 t9 := Tryz.underlying9
 a9 := Tryz.isAgg9
 z9 := Tryz.sizeOf9
 v9 := Tryz.zeroValue9
 t22 := Tryz.underlying25
 a22 := Tryz.isAgg25
 z22 := Tryz.sizeOf25
 v22 := Tryz.zeroValue25
 t25 := Tryz.underlying147
 a25 := Tryz.isAgg147
 z25 := Tryz.sizeOf147
 v25 := Tryz.zeroValue147
 t39 := Tryz.underlying243
 a39 := Tryz.isAgg243
 z39 := Tryz.sizeOf243
 v39 := Tryz.zeroValue243
 t45 := Tryz.underlying284
 a45 := Tryz.isAgg284
 z45 := Tryz.sizeOf284
 v45 := Tryz.zeroValue284
 t46 := Tryz.underlying285
 a46 := Tryz.isAgg285
 z46 := Tryz.sizeOf285
 v46 := Tryz.zeroValue285
 t50 := Tryz.underlying289
 a50 := Tryz.isAgg289
 z50 := Tryz.sizeOf289
 v50 := Tryz.zeroValue289
 t53 := Tryz.underlying292
 a53 := Tryz.isAgg292
 z53 := Tryz.sizeOf292
 v53 := Tryz.zeroValue292
 t55 := Tryz.underlying137
 a55 := Tryz.isAgg137
 z55 := Tryz.sizeOf137
 v55 := Tryz.zeroValue137
 t66 := Tryz.underlying327
 a66 := Tryz.isAgg327
 z66 := Tryz.sizeOf327
 v66 := Tryz.zeroValue327
 t70 := Tryz.underlying331
 a70 := Tryz.isAgg331
 z70 := Tryz.sizeOf331
 v70 := Tryz.zeroValue331
 t76 := Tryz.underlying352
 a76 := Tryz.isAgg352
 z76 := Tryz.sizeOf352
 v76 := Tryz.zeroValue352
 t77 := Tryz.underlying353
 a77 := Tryz.isAgg353
 z77 := Tryz.sizeOf353
 v77 := Tryz.zeroValue353 }
open Go.Shelf Go.RowKit Go.Lib Go.Sort in
theorem Tryz.slices_SortFunc_edge {α : Type} [Inhabited α] (enc : α → List Value) (hk : ∀ x, (enc x).length = 3) (h1 : ∀ x, ∀ v ∈ enc x, v.oneCell' = true) (cf : α → α → Int) (hO : SWO (ltOf cf)) (g : Nat) (cb : Array Value) (blk off cap : Nat) (d : Array α) (w : World) (eg : ∀ args w, (callFunc g args).run Tryz.prog w = .ok (.enter g args) w) (hcmp : CmpLays Tryz.prog g cb enc 3 cf blk off d.size w) (hH : HoldsK enc 3 w blk off d) (hblk : blk < w.heap.size) (hsz : d.size < 4611686018427387904) (hT : ∀ x y, (ltOf cf) x y = false → (ltOf cf) y x = false → x = y) :
  Calls Tryz.prog 132 #[.slice (some ⟨blk, off, none⟩) d.size cap, .func (.func g) #[] cb] w fun e w' =>
   e = .returned (.tuple #[]) ∧ ∃ n os, w' = sortWorldK enc 3 w blk off n (d.toList.mergeSort fun x y => !(ltOf cf) y x).toArray os := AnyQ.slices_SortFunc_total Tryz.laysSortG 3 Tryz.isAgg84 Tryz.sizeOf84 enc hk h1 cf hO g cb blk off cap d w eg hcmp hH hblk hsz hT
open Go.Shelf Go.RowKit Go.Lib Go.Sort in
theorem Tryz.slices_SortFunc_edge_none (p : Option Addr) (cap : Nat) (fv : Value) (w : World) :
  Calls Tryz.prog 132 #[.slice p 0 cap, fv] w fun e w' => e = .returned (.tuple #[]) ∧ w' = w := AnyF.slices_SortFunc_none Tryz.laysSortG p cap fv w
end Go.Proofs

namespace Go.Proofs.YtnhomkmfbngmgaaGreatDoor
open Go.ChangeShapes Go.WideShapes Go.ChangeAt Go.RowKit
set_option linter.unusedVariables false
set_option linter.unusedSimpArgs false

def byv (n : Int) : List Value := [.int .u8 n]
abbrev SlU := Sl 1 byv

def SrcW (w : World) (b N : Nat) : Prop :=
 ∃ (A : Option Addr) (n c : Nat) (code : List Int) (at_ : Nat) (seed : Int), w.heap[b]? = some (.cells #[.slice A n c, .int .i64 (at_ : Int), .int .u64 seed] 139 (0, 0)) ∧ at_ ≤ N ∧ n ≤ maxLen ∧
  SlU w 0 b A n code ∧ ∀ x, x ∈ code → 0 ≤ x ∧ x ≤ 255
structure SrcTo (w w' : World) (b N : Nat) : Prop where
 src : SrcW w' b N
 only : Only b (b + 1) w w'
 size : w'.heap.size = w.heap.size

section
variable {w w' w2 : World} {b N M : Nat}
theorem SrcW.lt (h : SrcW w b N) : b < w.heap.size := by
 obtain ⟨A, n, c, code, a, s, hb, _⟩ := h
 exact (Array.getElem?_eq_some_iff.1 hb).1
theorem SrcW.more (h : SrcW w b N) (hN : N ≤ M) : SrcW w b M := by
 obtain ⟨A, n, c, code, a, s, hb, ha, r⟩ := h
 exact ⟨A, n, c, code, a, s, hb, Nat.le_trans ha hN, r⟩
theorem SrcW.keep (h : SrcW w b N) (hs : w.heap.size ≤ w'.heap.size) (hk : ∀ k, k ≤ b → w'.heap[k]? = w.heap[k]?) : SrcW w' b N := by
 obtain ⟨A, n, c, code, a, s, hb, ha, hn, hc, r⟩ := h
 exact ⟨A, n, c, code, a, s, (hk b (Nat.le_refl _)).trans hb, ha, hn, hc.keep hs fun k _ h2 _ => hk k (by omega), r⟩
theorem SrcW.below {B : Nat} (h : SrcW w b N) (hb : Below B w w') (hB : b < B) : SrcW w' b N := h.keep hb.size fun k hk => hb.block k (by omega)
theorem SrcTo.refl (h : SrcW w b N) : SrcTo w w b N := ⟨h, Only.refl _ _ _, rfl⟩
theorem Only.trans' {lo hi : Nat} {a w w' : World} (h : Only lo hi a w) (g : Only lo hi w w') : Only lo hi a w' :=
 ⟨g.os.trans h.os, g.tape.trans h.tape, g.output.trans h.output, Nat.le_trans h.size g.size, fun k hk ho => (g.block k (Nat.lt_of_lt_of_le hk h.size) ho).trans (h.block k hk ho)⟩
theorem SrcTo.trans (h : SrcTo w w' b N) (g : SrcTo w' w2 b M) : SrcTo w w2 b M := ⟨g.src, h.only.trans' g.only, g.size.trans h.size⟩
theorem SrcTo.more (h : SrcTo w w' b N) (hN : N ≤ M) : SrcTo w w' b M := ⟨h.src.more hN, h.only, h.size⟩
theorem SrcW.put {A : Option Addr} {n c : Nat} {code : List Int} {a : Nat} {s s' : Int} (hb : w.heap[b]? = some (.cells #[.slice A n c, .int .i64 (a : Int), .int .u64 s] 139 (0, 0))) (hn : n ≤ maxLen) (hc : SlU w 0 b A n code) (hr : ∀ x, x ∈ code → 0 ≤ x ∧ x ≤ 255) (k0 k : Nat) :
  SrcTo w ((((w.drewN k0).setCell ⟨b, 1, none⟩ (.int .i64 ((a : Int) + 1))).setCell ⟨b, 2, none⟩ (.int .u64 s')).drewN k) b (a + 1) := by
 have hlt : b < w.heap.size := (Array.getElem?_eq_some_iff.1 hb).1
 replace hb : (w.drewN k0).heap[b]? = _ := hb
 have hc2 : SlU (w.drewN k0) 0 b A n code := hc.drewN k0
 have hO : Only b (b + 1) w (w.drewN k0) := ⟨rfl, rfl, rfl, Nat.le_refl _, fun _ _ _ => rfl⟩
 have hz : (w.drewN k0).heap.size = w.heap.size := rfl
 generalize w.drewN k0 = W at *
 refine ⟨⟨A, n, c, code, a + 1, s', ?_, Nat.le_refl _, hn, ?_, hr⟩, ?_, ?_⟩
 ·have h1 := heap_setCell_same W b 1 _ _ (.int .i64 ((a : Int) + 1)) hb
  have h2 := heap_setCell_same _ b 2 _ _ (.int .u64 s') h1
  exact h2
 ·refine Sl.drewN (w := (W.setCell ⟨b, 1, none⟩ (.int .i64 ((a : Int) + 1))).setCell ⟨b, 2, none⟩ (.int .u64 s')) ?_ k
  exact hc2.keep (by simp [World.size_setCell]) fun q _ h2 h3 => (Below.heap_setCell _ _ _ _ (by show q ≠ b; omega)).trans (Below.heap_setCell _ _ _ _ (by show q ≠ b; omega))
 ·have h1 := (hO.setCell (p := ⟨b, 1, none⟩) (Nat.le_refl _) (Nat.lt_succ_self _) (.int .i64 ((a : Int) + 1))).setCell (p := ⟨b, 2, none⟩) (Nat.le_refl _) (Nat.lt_succ_self _) (.int .u64 s')
  exact ⟨h1.os, h1.tape, h1.output, h1.size, h1.block⟩
 ·show ((W.setCell _ _).setCell _ _).heap.size = _
  rw [World.size_setCell, World.size_setCell]; exact hz
end

theorem byte_bits (x : Int) : 0 ≤ bits .and .u64 x 255 ∧ bits .and .u64 x 255 ≤ 255 := by
 have h : ((BitVec.ofInt 64 x &&& BitVec.ofInt 64 255).toNat) ≤ 255 := by
  rw [BitVec.toNat_and]
  exact Nat.le_trans Nat.and_le_right (by decide)
 have e : bits .and .u64 x 255 = IntKind.u64.wrap ((BitVec.ofInt 64 x &&& BitVec.ofInt 64 255).toNat : Nat) := rfl
 rw [e, IntKind.wrap_u64]
 omega

theorem byte_wrap (x : Int) : 0 ≤ wrap64 (bits .and .u64 x 255) ∧ wrap64 (bits .and .u64 x 255) ≤ 255 := by
 have h := byte_bits x
 have e : wrap64 (bits .and .u64 x 255) = bits .and .u64 x 255 := by unfold wrap64; omega
 rw [e]; exact h

set_option maxRecDepth 100000 in
set_option maxHeartbeats 1600000 in
theorem next_calls (b N : Nat) (w : World) (h : SrcW w b N) (hN : N ≤ 1000000000) :
  Calls Tryz.prog 166 #[.pointer (some ⟨b, 0, none⟩)] w fun e w' => ∃ x : Int, e = .returned (.int .i64 x) ∧ 0 ≤ x ∧ x ≤ 255 ∧ SrcTo w w' b (N + 1) := by
 obtain ⟨A, n, c, code, a, s, hb, ha, hn, hc, hr⟩ := h
 have hput := hide fun s' k0 k => (SrcW.put (s' := s') hb hn hc hr k0 k).more (M := N + 1) (by omega)
 have c0 : w.cell? ⟨b, 0, none⟩ = some (.slice A n c) := (cell_of_row w b 0 _ _ (0, 0) hb).trans rfl
 have c1 : w.cell? ⟨b, 1, none⟩ = some (.int .i64 (a : Int)) := (cell_of_row w b 1 _ _ (0, 0) hb).trans rfl
 have c2 : w.cell? ⟨b, 2, none⟩ = some (.int .u64 s) := (cell_of_row w b 2 _ _ (0, 0) hb).trans rfl
 have f1 := frozen_of_row w b 1 _ _ hb
 have f2 := frozen_of_row w b 2 _ _ hb
 have hnm : n ≤ 9223372036854775807 := Nat.le_trans hn (by unfold maxLen; omega)
 replace hb := hide hb
 by_cases hlt : a < n
 ·obtain ⟨bc, oc, rfl, -, -, -, hat⟩ := hc.at_ (by omega)
  have hl : a < code.length := by rw [hc.len]; exact hlt
  have hx := hat a _ (List.getElem?_eq_getElem hl) 0 _ rfl
  simp only [Nat.mul_one, Nat.add_zero] at hx
  obtain ⟨x0, x1⟩ := hr _ (List.getElem_mem hl)
  generalize code[a] = x at *
  obtain ⟨hx, -⟩ := hx
  replace hc := hide hc
  clear hat hr
  have i0 : (0 : Int) ≤ (a : Int) := by omega
  have i1 : (a : Int) < (n : Int) := by omega
  have i2 : (a : Int) + 1 ≤ (n : Int) := by omega
  have j1 : decide ((a : Int) < (n : Int)) = true := decide_eq_true i1
  have j2 : decide ((a : Int) + 1 ≤ (n : Int)) = true := decide_eq_true i2
  go_enter Tryz.func166, Tryz.ntmps166
  go_wp2_with fail
  go_quiet (fail)
  go_wp2_with fail
  go_quiet (fail)
  go_wp2_with fail
  go_quiet (fail)
  go_wp2_with fail
  go_ret
  exact ⟨x, rfl, x0, x1, hput.out _ _ _⟩
 ·replace hc := hide hc
  have i1 : ¬ (a : Int) < (n : Int) := by omega
  have i2 : ¬ (a : Int) + 1 ≤ (n : Int) := by omega
  have j1 : decide ((a : Int) < (n : Int)) = false := decide_eq_false i1
  have j2 : decide ((a : Int) + 1 ≤ (n : Int)) = false := decide_eq_false i2
  go_enter Tryz.func166, Tryz.ntmps166
  go_wp2_with fail
  go_quiet (fail)
  go_wp2_with fail
  go_quiet (fail)
  go_wp2_with fail
  go_ret
  exact ⟨_, rfl, (byte_wrap _).1, (byte_wrap _).2, hput.out _ _ _⟩

def PickR (b N : Nat) (n : Int) (w : World) (e : Ending) (w' : World) : Prop := ∃ x : Int, e = .returned (.int .i64 x) ∧ 0 ≤ x ∧ (x < n ∨ x = 0) ∧ SrcTo w w' b (N + 2)
theorem pick_rem (x : Int) {n : Int} (hn : 1 < n) : 0 ≤ x % n ∧ x % n < n := ⟨Int.emod_nonneg _ (by omega), Int.emod_lt_of_pos _ (by omega)⟩
set_option maxRecDepth 100000 in
set_option maxHeartbeats 1600000 in
theorem pick_calls (b N : Nat) (n : Int) (w : World) (h : SrcW w b N) (hN : N ≤ 900000000) :
  Calls Tryz.prog 84 #[.pointer (some ⟨b, 0, none⟩), .int .i64 n] w (PickR b N n w) := by
 have q1 := hide (next_calls b N w h (by omega))
 have hself := hide ((SrcTo.refl h).more (show N ≤ N + 2 by omega))
 clear h
 by_cases h1 : n ≤ 1
 ·go_enter Tryz.func84, Tryz.ntmps84
  go_wp2_with fail
  go_ret
  exact ⟨0, rfl, by omega, .inr rfl, hself.out⟩
 ·have hne : n ≠ 0 := by omega
  by_cases h2 : 200 < n
  ·go_enter Tryz.func84, Tryz.ntmps84
   go_wp2_with fail
   refine q1.out.mono ?_
   rintro e w1 ⟨x, rfl, x0, x1, hs1⟩
   have q2 := hide (next_calls b (N + 1) w1 hs1.src (by omega))
   replace hs1 := hide hs1
   go_wp2_with fail
   refine q2.out.mono ?_
   rintro e w2 ⟨y, rfl, y0, y1, hs2⟩
   have hs3 := hide (hs1.out.trans hs2)
   clear hs1 hs2 q1 q2
   have hr := pick_rem (x * 256 + y) (show 1 < n by omega)
   go_wp2_with fail
   go_ret
   exact ⟨_, rfl, hr.1, .inl hr.2, hs3.out⟩
  ·go_enter Tryz.func84, Tryz.ntmps84
   go_wp2_with fail
   refine q1.out.mono ?_
   rintro e w1 ⟨x, rfl, x0, x1, hs1⟩
   have hs3 := hide (hs1.more (show N + 1 ≤ N + 2 by omega))
   clear hs1 q1
   have hr := pick_rem x (show 1 < n by omega)
   go_wp2_with fail
   go_ret
   exact ⟨_, rfl, hr.1, .inl hr.2, hs3.out⟩
theorem one_calls (b N : Nat) (n : Int) (w : World) (h : SrcW w b N) (hN : N ≤ 900000000) :
  Calls Tryz.prog 92 #[.pointer (some ⟨b, 0, none⟩), .int .i64 n] w fun e w' => ∃ v : Bool, e = .returned (.bool v) ∧ SrcTo w w' b (N + 2) := by
 have q1 := hide (pick_calls b N n w h hN)
 clear h
 go_enter Tryz.func92, Tryz.ntmps92
 go_wp2_with fail
 refine q1.out.mono ?_
 rintro e w1 ⟨x, rfl, x0, x1, hs1⟩
 replace hs1 := hide hs1
 clear q1
 go_wp2_with fail
 go_ret
 exact ⟨_, rfl, hs1.out⟩

end Go.Proofs.YtnhomkmfbngmgaaGreatDoor

namespace Go.Proofs.YtnhomkmfbngmgaaGreatDoor
open Go.ChangeShapes Go.WideShapes Go.ChangeAt Go.RowKit
set_option linter.unusedVariables false
set_option linter.unusedSimpArgs false
theorem Only.alloc' {lo hi : Nat} {a w : World} (h : Only lo hi a w) (o : Obj) : Only lo hi a (w.alloc o) :=
 ⟨h.os, h.tape, h.output, by rw [World.size_alloc]; have := h.size; omega, fun q hq hd => (Below.heap_alloc _ _ _ (by have := h.size; omega)).trans (h.block q hq hd)⟩
theorem Only.setNew {lo hi : Nat} {a w : World} (h : Only lo hi a w) {p : Addr} (hp : a.heap.size ≤ p.block) (u : Value) : Only lo hi a (w.setCell p u) :=
 ⟨h.os, h.tape, h.output, by rw [World.size_setCell]; exact h.size, fun q hq hd => (Below.heap_setCell _ _ _ _ (by omega)).trans (h.block q hq hd)⟩
theorem Only.drew' {lo hi : Nat} {a w : World} (h : Only lo hi a w) : Only lo hi a w.drew := ⟨h.os, h.tape, h.output, h.size, h.block⟩
theorem Only.belowAt {lo hi B : Nat} {a w w' : World} (h : Only lo hi a w) (g : Below B w w') (hB : a.heap.size ≤ B) : Only lo hi a w' :=
 ⟨g.os.trans h.os, g.tape.trans h.tape, g.output.trans h.output, Nat.le_trans h.size g.size, fun q hq hd => (g.block q (by omega)).trans (h.block q hq hd)⟩
theorem Only.grow {lo hi : Nat} {a w w' : World} (h : Only lo hi a w) {row : Option Nat} (g : w.grownBy w' row) (hr : ∀ k, row = some k → a.heap.size ≤ k) : Only lo hi a w' :=
 ⟨g.os.trans h.os, g.tape.trans h.tape, g.output.trans h.output, Nat.le_trans h.size g.size, fun q hq hd => (g.block q (by have := h.size; omega) (fun e => by have := hr q e.symm; omega)).trans (h.block q hq hd)⟩

section
variable {w w' : World} {b N M : Nat}
theorem SrcW.alloc (h : SrcW w b N) (o : Obj) : SrcW (w.alloc o) b N := h.below ((Below.refl w.heap.size w).alloc (Nat.le_refl _) o) h.lt
theorem SrcW.drew (h : SrcW w b N) : SrcW w.drew b N := h
theorem SrcW.setNew (h : SrcW w b N) {p : Addr} (hp : b < p.block) (u : Value) : SrcW (w.setCell p u) b N :=
 h.keep (by rw [World.size_setCell]; exact Nat.le_refl _) fun q hq => Below.heap_setCell _ _ _ _ (by omega)
theorem SrcW.grow (h : SrcW w b N) {row : Option Nat} (g : w.grownBy w' row) (hr : ∀ k, row = some k → b < k) : SrcW w' b N :=
 h.keep g.size fun q hq => g.block q (by have := h.lt; omega) (fun e => by have := hr q e.symm; omega)
end

set_option maxRecDepth 100000 in
theorem among_calls (b N : Nat) (A : Option Addr) (n c : Nat) (l : List Int) (w : World) (lo hi : Nat) (h : SrcW w b N) (hN : N ≤ 900000000) (hs : SlI w lo hi A n l) (hd : hi ≤ b ∨ b + 1 ≤ lo) (hn : 0 < n) (hm : n ≤ 1048576) :
  Calls Tryz.prog 86 #[.pointer (some ⟨b, 0, none⟩), .slice A n c] w fun e w' => ∃ x : Int, e = .returned (.int .i64 x) ∧ x ∈ l ∧ SrcTo w w' b (N + 2) := by
 have q1 := hide (pick_calls b N (n : Int) w h hN)
 obtain ⟨ba, oa, rfl, g1, g2, g3, -⟩ := hs.at_ hn
 replace hs := hide hs
 clear h
 go_enter Tryz.func86, Tryz.ntmps86
 go_wp2_with fail
 refine q1.out.mono ?_
 rintro e w1 ⟨x, rfl, x0, x1, hs1⟩
 obtain ⟨k, rfl⟩ : ∃ k : Nat, x = (k : Int) := ⟨x.toNat, by omega⟩
 have hk : k < n := by omega
 have hl := hs.out.only hs1.only (by omega)
 obtain ⟨b', o', y, e1, -, -, -, hy, c0, -⟩ := SlI.get hl hk
 cases e1
 replace hs1 := hide hs1
 have hmem := hide (List.mem_of_getElem? hy)
 have k0 : (0 : Int) ≤ (k : Int) := by omega
 have k1 : (k : Int) < (n : Int) := by omega
 clear q1 hl hy x0 x1
 go_wp2_with fail
 go_ret
 exact ⟨y, rfl, hmem.out, hs1.out⟩

theorem l00From_calls (A : Option Addr) (n c : Nat) (code : List Int) (w : World) (h : SlU w 0 w.heap.size A n code) (hc : ∀ x, x ∈ code → 0 ≤ x ∧ x ≤ 255) (hn : n ≤ maxLen) :
  Calls Tryz.prog 48 #[.slice A n c] w fun e w' => e = .returned (.pointer (some ⟨w.heap.size, 0, none⟩)) ∧ SrcW w' w.heap.size 0 ∧ Below w.heap.size w w' ∧ w'.heap.size = w.heap.size + 1 := by
 have hS : Hid (SrcW (w.alloc (.cells #[.slice A n c, .int .i64 0, .int .u64 0] 139)) w.heap.size 0) :=
  ⟨A, n, c, code, 0, 0, heap_alloc_new w _, Nat.le_refl _, hn, h.below ((Below.refl w.heap.size w).alloc (Nat.le_refl _) _) (.inr (Nat.le_refl _)), hc⟩
 clear h
 go_enter Tryz.func48, Tryz.ntmps48
 go_wp2_with fail
 go_ret
 exact ⟨rfl, hS.out, (Below.refl _ _).alloc (Nat.le_refl _) _, by rw [World.size_alloc]⟩

end Go.Proofs.YtnhomkmfbngmgaaGreatDoor
