/-
  Lemmas that the law of this claim leans on. Conditions: sizes.
-/
import Derived.Test.YtnhomkmfbngmgaaGreatDoorBaseA
import Derived.StillTailTactics
import Derived.Lib.AppendIntMem
import Derived.WalkSmall
import Derived.Deep.RegionLaw
import Derived.Test.YtnhomkmfbngmgaaGreatDoorRows
import Derived.LoopTactic
import Derived.Lib.ItoaLen
import Derived.Lib.QuietBelow
import Derived.BigQuiet
import Derived.Laws.Cover1
import Derived.IntWalk
import Derived.Deep.RegionHeld3
set_option maxHeartbeats 3200000
set_option maxRecDepth 100000
set_option linter.unusedSimpArgs false
set_option linter.unusedVariables false
namespace Go.Proofs.YtnhomkmfbngmgaaGreatDoor
open Go.ChangeShapes Go.WideShapes Go.ChangeAt Go.RowKit
def smallB (c : Int) : Bool := decide (97 ≤ c) && decide (c ≤ 122)
def digitB (c : Int) : Bool := decide (48 ≤ c) && decide (c ≤ 57)
theorem isDigit_calls (c : Int) (w : World) : Calls Tryz.prog 306 #[.int .u8 c] w fun e w' => e = .returned (.bool (digitB c)) ∧ w = w' := by
 by_cases h1 : 48 ≤ c <;> by_cases h2 : c ≤ 57
 all_goals
  go_enter Tryz.func306, Tryz.ntmps306
  go_wp2
  go_ret;exact ⟨by simp [digitB, h1, h2], rfl⟩
def badX (k : Nat) (x : Int) : Bool := !(smallB x) && (decide (k = 0) || !(digitB x))
def badAt (s : ByteArray) (k : Nat) : Bool := match s.data.toList[k]? with | some c => badX k (c.toNat : Int) | none => false
def nameB (s : ByteArray) : Bool := (List.range s.size).all (fun k => !(badAt s k)) && decide (1 ≤ s.size ∧ s.size ≤ 10)
theorem badAt_get (s : ByteArray) (k : Nat) (h : k < s.size) : badAt s k = badX k (s[k].toNat : Int) := by
 unfold badAt;have : s.data.toList[k]? = some s[k] := by
  rw [List.getElem?_eq_getElem (by simpa using h)]
  rfl
 rw [this]
theorem nameB_bad {s : ByteArray} {k : Nat} (h : k < s.size) (hb : badX k (s[k].toNat : Int) = true) : nameB s = false := by
 unfold nameB;rw [Bool.and_eq_false_iff]
 left
 rw [← Bool.not_eq_true, List.all_eq_true];intro hc;have := hc k (List.mem_range.2 h);rw [badAt_get s k h, hb] at this
 cases this
theorem nameB_good {s : ByteArray} (h : ∀ j (hj : j < s.size), badX j (s[j].toNat : Int) = false) : nameB s = decide (1 ≤ s.size ∧ s.size ≤ 10) := by
 unfold nameB;rw [(List.all_eq_true.2 fun k hk => by rw [badAt_get s k (List.mem_range.1 hk), h k (List.mem_range.1 hk)]; rfl), Bool.true_and]
theorem isName_calls (s : ByteArray) (w : World) (hs : s.size ≤ maxLen) : Calls Tryz.prog 250 #[.string s] w fun e w' => e = .returned (.bool (nameB s)) ∧ w = w' := by
 unfold maxLen at hs;have hs63 : s.size ≤ 9223372036854775807 := by omega
 go_enter Tryz.func250, Tryz.ntmps250
 go_wp2
 go_loop [7] (fun i => ∃ k : Nat, k ≤ s.size ∧ i = .int .i64 k ∧ Hid (∀ j (hj : j < s.size), j < k → badX j (s[j].toNat : Int) = false)) (fun i => s.size - (intOf i).toNat)
 case atStart => exact ⟨0, Nat.zero_le _, rfl, fun j _ h => absurd h (by omega)⟩
 case round =>
  obtain ⟨k, hk, rfl, ha⟩ := hrel
  by_cases hlt : k < s.size
  ·have hbad := hide (fun hb => nameB_bad (s := s) hlt hb)
   have hnext : Hid (badX k (s[k].toNat : Int) = false → ∀ j (hj : j < s.size), j < k + 1 → badX j (s[j].toNat : Int) = false) := fun hg j hj hjk => by
    rcases Nat.lt_or_ge j k with h1 | h1
    ·exact ha.out j hj h1
    ·have : j = k := by omega
     subst this;exact hg
   have hq := hide (isDigit_calls (s[k].toNat : Int) w);generalize hc : (s[k].toNat : Int) = c at *;have hgetk : ∀ h : k < s.size, (s[k].toNat : Int) = c := fun _ => hc
   by_cases h1 : 97 ≤ c ∧ c ≤ 122
   ·have h1a := h1.1
    have h1b := h1.2;have hg : Hid (badX k c = false) := by show _ = _; simp [badX, smallB, h1a, h1b]
    clear h1;go_wp2_with fail
    go_round
    case rel => exact ⟨k + 1, by omega, by go_num, hnext.out hg.out⟩
    case measure => simp [intOf]; omega
   ·by_cases h1a : 97 ≤ c
    ·have h1b : ¬ c ≤ 122 := fun h => h1 ⟨h1a, h⟩
     clear h1;have hsm : Hid (smallB c = false) := by show _ = _; simp [smallB]; omega
     by_cases hk0 : k = 0
     ·have hv := hide (hbad.out (by rw [hk0]; simp [badX, hsm.out]))
      subst hk0;clear hnext hq;go_wp2_with fail;go_ret;exact ⟨ret_b (by rw [hv.out]), rfl⟩
     ·have hki : ((k : Int) == 0) = false := by rw [beq_eq_false_iff_ne]; omega
      by_cases hd : digitB c = true
      ·have hqq := hq.out
       rw [hd] at hqq;replace hqq := hide hqq;have hg : Hid (badX k c = false) := by show _ = _; simp [badX, hsm.out, hk0, hd]
       clear hd hq hk0
       go_wp2_with (go_at_call 306; (with_reducible refine hqq.out.mono ?_); rintro e w1 ⟨rfl, rfl⟩)
       go_round
       case rel => exact ⟨k + 1, by omega, by go_num, hnext.out hg.out⟩
       case measure => simp [intOf]; omega
      ·have hqq := hq.out
       replace hd := Bool.eq_false_iff.2 hd;rw [hd] at hqq;replace hqq := hide hqq;have hv := hide (hbad.out (by simp [badX, hsm.out, hd]));clear hd hq hk0 hnext
       go_wp2_with (go_at_call 306; (with_reducible refine hqq.out.mono ?_); rintro e w1 ⟨rfl, rfl⟩)
       go_ret;exact ⟨ret_b (by rw [hv.out]), rfl⟩
    ·clear h1
     have hsm : Hid (smallB c = false) := by show _ = _; simp [smallB]; omega
     by_cases hk0 : k = 0
     ·have hv := hide (hbad.out (by rw [hk0]; simp [badX, hsm.out]))
      subst hk0;clear hnext hq;go_wp2_with fail;go_ret;exact ⟨ret_b (by rw [hv.out]), rfl⟩
     ·have hki : ((k : Int) == 0) = false := by rw [beq_eq_false_iff_ne]; omega
      by_cases hd : digitB c = true
      ·have hqq := hq.out
       rw [hd] at hqq;replace hqq := hide hqq;have hg : Hid (badX k c = false) := by show _ = _; simp [badX, hsm.out, hk0, hd]
       clear hd hq hk0
       go_wp2_with (go_at_call 306; (with_reducible refine hqq.out.mono ?_); rintro e w1 ⟨rfl, rfl⟩)
       go_round
       case rel => exact ⟨k + 1, by omega, by go_num, hnext.out hg.out⟩
       case measure => simp [intOf]; omega
      ·have hqq := hq.out
       replace hd := Bool.eq_false_iff.2 hd;rw [hd] at hqq;replace hqq := hide hqq;have hv := hide (hbad.out (by simp [badX, hsm.out, hd]));clear hd hq hk0 hnext
       go_wp2_with (go_at_call 306; (with_reducible refine hqq.out.mono ?_); rintro e w1 ⟨rfl, rfl⟩)
       go_ret;exact ⟨ret_b (by rw [hv.out]), rfl⟩
  ·have hkn : k = s.size := by omega
   have hv := hide (nameB_good (s := s) (fun j hj => ha.out j hj (by omega)))
   by_cases z1 : 1 ≤ s.size
   ·by_cases z2 : s.size ≤ 10
    ·have hvv : Hid (nameB s = true) := by show _ = _; rw [hv.out]; simp [z1, z2]
     have z1i : (1 : Int) ≤ (s.size : Int) := by omega
     have z2i : (s.size : Int) ≤ 10 := by omega
     clear hv ha;go_wp2_with fail;go_ret;exact ⟨ret_b (by rw [hvv.out]), rfl⟩
    ·have hvv : Hid (nameB s = false) := by show _ = _; rw [hv.out]; simp [z2]
     have z1i : (1 : Int) ≤ (s.size : Int) := by omega
     have z2i : ¬ (s.size : Int) ≤ 10 := by omega
     clear hv ha;go_wp2_with fail;go_ret;exact ⟨ret_b (by rw [hvv.out]), rfl⟩
   ·have hvv : Hid (nameB s = false) := by show _ = _; rw [hv.out]; simp; omega
    have z1i : ¬ (1 : Int) ≤ (s.size : Int) := by omega
    clear hv ha;go_wp2_with fail;go_ret;exact ⟨ret_b (by rw [hvv.out]), rfl⟩
structure Good (w : World) : Prop where
 shape : w.ShapedOpen Tryz.prog
 tab : Lib.TabIs Tryz.prog w "internal/strconv.uint64pow10" .u64 Lib.pow10Tab
 syn : ∃ tp p, w.var? Tryz.prog "strconv.ErrSyntax" = some #[.iface tp p]
def Env (w : World) : Prop := ∃ W0, Good W0 ∧ Below W0.heap.size W0 w
theorem Env.of {w : World} (h : Good w) : Env w := ⟨w, h, bR⟩
theorem Env.below {w w' : World} {B : Nat} (h : Env w) (hb : Below B w w') (hB : w.heap.size ≤ B) : Env w' := by
 obtain ⟨W0, h0, h1⟩ := h;have hs := h1.size;exact ⟨W0, h0, h1.trans (hb.mono (by omega))⟩
theorem var_lt {W : World} {n : String} {cs : Array Value} {g : Nat} (hg : Tryz.prog.globalNamed n = some g) (hv : W.var? Tryz.prog n = some cs) : g < W.heap.size := by
 unfold World.var? at hv;rw [hg] at hv
 rcases Nat.lt_or_ge g W.heap.size with h | h
 ·exact h
 ·simp [Array.getElem?_eq_none h] at hv
theorem Env.good {w : World} (h : Env w) : Good w := by
 obtain ⟨W0, h0, h1⟩ := h;have hblk : ∀ {k : Nat} {o : Obj}, W0.heap[k]? = some o → w.heap[k]? = some o := fun {k o} hk => (h1.block k (Array.getElem?_eq_some_iff.1 hk).1).trans hk
 obtain ⟨g1, e1⟩ : ∃ g, Tryz.prog.globalNamed "internal/strconv.uint64pow10" = some g := Option.isSome_iff_exists.1 (by kernel_rfl);obtain ⟨g2, e2⟩ : ∃ g, Tryz.prog.globalNamed "strconv.ErrSyntax" = some g := Option.isSome_iff_exists.1 (by kernel_rfl);refine ⟨⟨fun g zero t hg hr => ?_, fun k hk1 hk2 => ?_⟩, ?_, ?_⟩
 ·obtain ⟨cs, a, b, c⟩ := h0.shape.1 g zero t hg hr
  exact ⟨cs, hblk a, b, fun hb => Row.ok_of_shape (fun bb x hx => by
   unfold World.shape? at hx ⊢
   rcases Nat.lt_or_ge bb W0.heap.size with h | h
   ·rw [h1.block bb h]; exact hx
   ·simp [Array.getElem?_eq_none h] at hx) (c hb)⟩
 ·obtain ⟨o, o2, a, b⟩ := h0.shape.2 k hk1 hk2
  exact ⟨o, o2, hblk a, b⟩
 ·exact var?_below h1 e1 (var_lt e1 h0.tab) h0.tab
 ·obtain ⟨tp, p, hv⟩ := h0.syn
  exact ⟨tp, p, var?_below h1 e2 (var_lt e2 hv) hv⟩
theorem decimal_calls (n : Int) (h0 : -9223372036854775808 ≤ n) (h1 : n ≤ 9223372036854775807) (w : World) (he : Env w) :
  Calls Tryz.prog 56 #[.int .i64 n] w fun e w' => e = .returned (.string ⟨(Lib.itoa n).toArray⟩) ∧ Below w.heap.size w w' := by
 have q := hide (Tryz.strconv_FormatInt_10 n h0 h1 w he.good.tab);clear he;go_enter Tryz.func56, Tryz.ntmps56;go_wp2_with fail;refine q.out.mono ?_;rintro e w1 ⟨rfl, k, os, rfl⟩;go_wp2_with fail;go_ret;exact ⟨rfl, Lib.below_grow _ _ zR _ _⟩
theorem parse_short (l : List UInt8) (h : ¬ 18 < (Lib.trimPrefix l [45]).length) :
  (∃ v : Int, Lib.parseIntB 64 l = .ok v ∧ -9223372036854775808 ≤ v ∧ v ≤ 9223372036854775807) ∨ Lib.parseIntB 64 l = Lib.NumEnd.syntax := by
 cases l with
 | nil => exact .inr rfl
 | cons c r =>
  have key : ∀ t : List UInt8, t.length ≤ 18 → Lib.parseUintB 64 t = Lib.NumEnd.syntax ∨ ∃ u, Lib.parseUintB 64 t = .ok u ∧ u < 10 ^ 18 := by
   intro t ht;rw [parseUintB_short t ht]
   by_cases hd : t ≠ [] ∧ t.all isDig = true
   ·rw [if_pos hd]
    exact .inr ⟨_, rfl, valN_18 ht hd.2⟩
   ·rw [if_neg hd]
    exact .inl rfl
  have h18 : (10 : Nat) ^ 18 = 1000000000000000000 := by decide
  have h63 : (2 : Nat) ^ (64 - 1) = 9223372036854775808 := by decide
  rw [h18] at key;unfold Lib.parseIntB
  by_cases hs : c.toNat = 43 ∨ c.toNat = 45
  ·have hlen : r.length ≤ 18 := by
    by_cases hc : c = 45
    ·subst hc
     have : Lib.trimPrefix (45 :: r) [45] = r := by unfold Lib.trimPrefix Lib.hasPrefix; simp
     rw [this] at h;omega
    ·have : Lib.trimPrefix (c :: r) [45] = c :: r := by
      unfold Lib.trimPrefix Lib.hasPrefix;rw [if_neg]
      simp
      exact fun h => hc h.symm
     rw [this] at h;simp only [List.length_cons] at h;omega
   simp only [if_pos hs]
   rcases key _ hlen with h1 | ⟨u, h1, h2⟩
   ·right
    rw [h1]
   ·left
    rw [h1];simp only [h63];rw [if_neg (by omega), if_neg (by omega)]
    by_cases hn : c.toNat = 45
    ·simp only [hn, if_true]
     exact ⟨_, rfl, by omega, by omega⟩
    ·simp only [hn, if_false]
     exact ⟨_, rfl, by omega, by omega⟩
  ·have hlen : (c :: r).length ≤ 18 := by
    have : Lib.trimPrefix (c :: r) [45] = c :: r := by
     unfold Lib.trimPrefix Lib.hasPrefix;rw [if_neg]
     simp
     rintro rfl;exact hs (Or.inr rfl)
    rw [this] at h;omega
   simp only [if_neg hs]
   rcases key _ hlen with h1 | ⟨u, h1, h2⟩
   ·right
    rw [h1]
   ·left
    rw [h1];simp only [h63];rw [if_neg (by omega), if_neg (by omega)];have hn : ¬ c.toNat = 45 := fun e => hs (Or.inr e)
    simp only [hn, if_false];exact ⟨_, rfl, by omega, by omega⟩
def numR (o : Option Int) : Value := .tuple #[.int .i64 (o.getD 0), .bool o.isSome]
theorem numP_long {l : List UInt8} (h : 18 < (Lib.trimPrefix l [45]).length) : numP l = none := by unfold numP; rw [if_pos h]
theorem numP_syn {l : List UInt8} (h : Lib.parseIntB 64 l = Lib.NumEnd.syntax) : numP l = none := by unfold numP; rw [h]; split <;> rfl
theorem numP_ok {l : List UInt8} {v : Int} (hl : ¬ 18 < (Lib.trimPrefix l [45]).length) (h : Lib.parseIntB 64 l = .ok v) : numP l = if Lib.itoa v = l then some v else none := by unfold numP; rw [if_neg hl, h]
theorem bytes_eta (s : ByteArray) : (⟨s.data.toList.toArray⟩ : ByteArray) = s := by cases s; simp
theorem bytes_size (l : List UInt8) : (⟨l.toArray⟩ : ByteArray).size = l.length := by simp [ByteArray.size]
theorem readDecimal_calls (s : ByteArray) (hs : s.size ≤ 1048576) (w : World) (he : Env w) :
  Calls Tryz.prog 115 #[.string s] w fun e w' => e = .returned (numR (numS s.data.toList)) ∧ Below w.heap.size w w' := by
 rw [← numP_eq];have q1 : Calls Tryz.prog 213 #[.string s, .string ⟨#[45]⟩] w fun e w' => e = .returned (.string ⟨(Lib.trimPrefix s.data.toList [45]).toArray⟩) ∧ w' = w := Tryz.strings_TrimPrefix s ⟨#[45]⟩ w
 have hsz := bytes_size (Lib.trimPrefix s.data.toList [45]);generalize (⟨(Lib.trimPrefix s.data.toList [45]).toArray⟩ : ByteArray) = t at *;replace q1 := hide q1
 by_cases hl : 18 < (Lib.trimPrefix s.data.toList [45]).length
 ·have hv := hide (numP_long hl)
  have hlt : (18 : Int) < (t.size : Int) := by omega
  clear hl hsz he;go_enter Tryz.func115, Tryz.ntmps115;go_wp2_with fail;refine q1.out.mono ?_;rintro e w1 ⟨rfl, rfl⟩;go_wp2_with fail;go_ret2;exact ⟨by rw [hv.out]; rfl, bR⟩
 ·have hlt : ¬ (18 : Int) < (t.size : Int) := by omega
  clear hsz
  rcases parse_short _ hl with ⟨v, hp, hb0, hb1⟩ | hp
  ·have q2 := hide (((Tryz.strconv_ParseInt_10_at64_ok s (by omega) v hp w).mono fun e w' ⟨a, b⟩ => ⟨a, b.elim (fun h => h ▸ bR) (fun ⟨t, h⟩ => h ▸ Lib.bytesWorld_below _ _ _)⟩ :
    Calls Tryz.prog 214 #[.string s, .int .i64 10, .int .i64 64] w fun e w' => e = .returned (.tuple #[.int .i64 v, .nilIface]) ∧ Below w.heap.size w w'))
   have q3 := hide (fun W (hW : Below w.heap.size w W) => decimal_calls v hb0 hb1 W (he.below hW zR));have hv := hide (numP_ok hl hp);clear hl hp he hb0 hb1
   by_cases hi : Lib.itoa v = s.data.toList
   ·have hq : (⟨(Lib.itoa v).toArray⟩ : ByteArray) = s := by rw [hi, bytes_eta]
    have hv2 : Hid (numP s.data.toList = some v) := by show _ = _; rw [hv.out, if_pos hi]
    rw [hq] at q3;clear hv hi hq;go_enter Tryz.func115, Tryz.ntmps115;go_wp2_with fail;refine q1.out.mono ?_;rintro e w1 ⟨rfl, rfl⟩;go_wp2_with fail;refine q2.out.mono ?_;rintro e w2 ⟨rfl, hb2⟩;go_wp2_with fail;refine (q3.out _ hb2).mono ?_;rintro e w3 ⟨rfl, hb3⟩;go_wp2_with fail;go_ret2;exact ⟨by rw [hv2.out]; rfl, hb2.trans (hb3.mono hb2.size)⟩
   ·have hq : (⟨(Lib.itoa v).toArray⟩ : ByteArray) ≠ s := by
     intro h
     apply hi
     rw [← h]
    have hv2 : Hid (numP s.data.toList = none) := by show _ = _; rw [hv.out, if_neg hi]
    have hne := str_neq hq;clear hv hi hq;generalize (⟨(Lib.itoa v).toArray⟩ : ByteArray) = u at *;go_enter Tryz.func115, Tryz.ntmps115;go_wp2_with fail;refine q1.out.mono ?_;rintro e w1 ⟨rfl, rfl⟩;go_wp2_with fail;refine q2.out.mono ?_;rintro e w2 ⟨rfl, hb2⟩;go_wp2_with fail;refine (q3.out _ hb2).mono ?_;rintro e w3 ⟨rfl, hb3⟩;go_wp2_with fail;go_ret2;exact ⟨by rw [hv2.out]; rfl, hb2.trans (hb3.mono hb2.size)⟩
  ·obtain ⟨tp, p, hvar⟩ := he.good.syn
   have q2 := hide (((Tryz.strconv_ParseInt_10_at64_syntax_var s (by omega) hp tp p w hvar).mono fun e w' ⟨N, a, _, _, b⟩ => ⟨N, a, b⟩ :
    Calls Tryz.prog 214 #[.string s, .int .i64 10, .int .i64 64] w fun e w' => ∃ N, e = .returned (.tuple #[.int .i64 0, .iface 317 (.pointer (some ⟨N, 0, none⟩))]) ∧ Below w.heap.size w w'))
   have hv := hide (numP_syn hp);clear hl hp he hvar;go_enter Tryz.func115, Tryz.ntmps115;go_wp2_with fail;refine q1.out.mono ?_;rintro e w1 ⟨rfl, rfl⟩;go_wp2_with fail;refine q2.out.mono ?_;rintro e w2 ⟨N, rfl, hb2⟩;go_wp2_with fail;go_ret2;exact ⟨by rw [hv.out]; rfl, hb2⟩
theorem bsize (s : ByteArray) : s.data.toList.length = s.size := by rw [Array.length_toList]; rfl
def mkB (l : List UInt8) : ByteArray := ⟨l.toArray⟩
theorem mkB_data (l : List UInt8) : (mkB l).data.toList = l := rfl
theorem mkB_size (l : List UInt8) : (mkB l).size = l.length := bytes_size l
theorem flat_strv : Flat strv 1 := ⟨fun _ => rfl, fun x u h => by simp [strv] at h; subst h; rfl⟩
theorem elem_str : Elem Tryz.prog 24 9 1 16 := Elem.of Tryz.underlying24 info_string rfl (by decide) (by decide)
theorem splitC_len (c : UInt8) : ∀ l : List UInt8, (splitC c l).length ≤ l.length + 1
 | [] => by simp [splitC]
 | x :: l => by
  have ih := splitC_len c l
  by_cases hx : x = c
  ·subst hx
   rw [splitC_ceq];simp only [List.length_cons];omega
  ·rw [splitC_cne hx]
   simp only [List.length_cons, List.length_tail];omega
def nameL (l : List UInt8) : Bool := nameB (mkB l)
def labS (s : ByteArray) : Bool := (valsS nameL s.data.toList).isSome
theorem nameL_data (s : ByteArray) : nameL s.data.toList = nameB s := by unfold nameL mkB; rw [bytes_eta]
def actB (s : ByteArray) : Bool := nameB s && !(decide (s = tauB))
theorem tau_list : tauB.toList = [116, 97, 117] := ByteArray.toList_mk _
theorem tau_ne {s : ByteArray} (h : s ≠ tauB) : (s.toList == [116, 97, 117]) = false := by rw [← tau_list]; exact str_neq h
theorem numsOf_none {f : List UInt8 → Option Int} : ∀ {l : List (List UInt8)} {k : Nat} {x : List UInt8}, l[k]? = some x → f x = none → numsOf f l = none
 | [], k, x, h, _ => by simp at h
 | y :: l, 0, x, h, hf => by
  simp at h
  subst h;unfold numsOf;rw [hf]
 | y :: l, k + 1, x, h, hf => by
  unfold numsOf;rw [numsOf_none (l := l) (k := k) (by simpa using h) hf]
  split
  ·rename_i h1; cases h1
  ·rfl
theorem splitC_mem_len (c : UInt8) : ∀ (l x : List UInt8), x ∈ splitC c l → x.length ≤ l.length
 | [], x, h => by simp [splitC] at h; subst h; simp
 | y :: l, x, h => by
  have ih := splitC_mem_len c l
  by_cases hy : y = c
  ·subst hy
   rw [splitC_ceq, List.mem_cons] at h
   rcases h with rfl | h
   ·simp
   ·have := ih x h
    simp only [List.length_cons];omega
  ·rw [splitC_cne hy, List.mem_cons] at h
   obtain ⟨p, ps, hp⟩ := List.exists_cons_of_ne_nil (splitC_ne c l);rw [hp] at h ih;simp only [List.headD_cons, List.tail_cons] at h
   rcases h with rfl | h
   ·have := ih p (by simp)
    simp only [List.length_cons];omega
   ·have := ih x (List.mem_cons_of_mem _ h)
    simp only [List.length_cons];omega
theorem elem_int : Elem Tryz.prog 32 2 1 8 := Elem.of Tryz.underlying32 info_int64 rfl (by decide) (by decide)
theorem labS_miss {s : ByteArray} (hn : (40 : UInt8) ∉ s.data.toList) : labS s = nameB s := by
 unfold labS valsS;rw [if_pos hn, nameL_data]
 cases nameB s <;> rfl
def Says (b : Bool) (W : World) (e : Ending) (W' : World) : Prop := e = .returned (.bool b) ∧ Below W.heap.size W W'
theorem any_take_succ {α : Type} {G : α → Bool} {l : List α} {k : Nat} {x : α} (h : (l.take k).any G = false) (hx : l[k]? = some x) (hg : G x = false) : (l.take (k + 1)).any G = false := by
 rw [List.take_add_one, hx, List.any_append, h]
 simp [hg]
theorem any_hit {α : Type} {G : α → Bool} {l : List α} {k : Nat} {x : α} (hx : l[k]? = some x) (hg : G x = true) : l.any G = true :=
 List.any_eq_true.2 ⟨x, List.mem_of_getElem? hx, hg⟩
theorem indexFuncI_calls (F : FuncId) (caps : Array Value) (G : Int → Bool) (A : Option Addr) (n c : Nat) (l : List Int) (w : World) (lo hi : Nat) (h : SlI w lo hi A n l) (hn : n ≤ 1048576)
  (hF : ∀ (v : Value) (W : World), Sem.run Tryz.prog (callFunc F (#[v] ++ caps)) W = .ok (.enter F (#[v] ++ caps)) W)
  (hcl : ∀ (v : Int) (W : World), Below w.heap.size w W → Calls Tryz.prog F (#[.int .i64 v] ++ caps) W (Says (G v) W)) :
  Calls Tryz.prog 222 #[.slice A n c, .func (.func F) #[] caps] w fun e w' => ∃ i : Int, e = .returned (.int .i64 i) ∧ decide (0 ≤ i) = l.any G ∧ Below w.heap.size w w' := by
 have hlen := hide h.len;replace hcl := hide hcl;go_enter Tryz.func222, Tryz.ntmps222
 go_wp2
 go_loopw [8] (fun i wr => ∃ k : Nat, k ≤ n ∧ i = .int .i64 k ∧ Below w.heap.size w wr ∧ Hid ((l.take k).any G = false)) (fun i _ => n - (intOf i).toNat)
 case atStart => exact ⟨0, Nat.zero_le _, rfl, bR, rfl⟩
 case round =>
  obtain ⟨k, hk, rfl, hb, ha⟩ := hrel
  by_cases hlt : k < n
  ·obtain ⟨b, off, x, rfl, g1, g2, g3, hx, c0, -⟩ := h.get hlt
   replace c0 := (hb.cell (p := ⟨b, off + k, none⟩) g3).trans c0;have hc := hcl.out x wr hb;replace hx := hide hx;clear h hcl
   by_cases hg : G x = true
   ·rw [hg] at hc
    replace hc := hide hc;have hy := hide (any_hit hx.out hg);clear hg;go_wp2_with fail;refine hc.out.mono ?_;rintro e w1 ⟨rfl, hb1⟩;go_wp2_with fail;go_ret;exact ⟨_, rfl, by rw [hy.out]; simp, hb.trans (hb1.mono hb.size)⟩
   ·replace hg := Bool.eq_false_iff.2 hg
    rw [hg] at hc;replace hc := hide hc;have hy := hide (any_take_succ ha.out hx.out hg);clear hg;go_wp2_with fail;refine hc.out.mono ?_;rintro e w1 ⟨rfl, hb1⟩;go_wp2_with fail;go_roundw
    case rel => exact ⟨k + 1, by omega, by go_num, hb.trans (hb1.mono hb.size), hy⟩
    case measure => simp [intOf]; omega
  ·have hkn : k = n := by omega
   subst hkn;clear hcl
   go_wp2
   go_ret;have hy := ha.out
   rw [List.take_of_length_le (by rw [hlen.out]; exact zR)] at hy;exact ⟨_, rfl, by rw [hy]; decide, hb⟩
theorem containsFuncI_calls (F : FuncId) (caps : Array Value) (G : Int → Bool) (A : Option Addr) (n c : Nat) (l : List Int) (w : World) (lo hi : Nat) (h : SlI w lo hi A n l) (hn : n ≤ 1048576)
  (hF : ∀ (v : Value) (W : World), Sem.run Tryz.prog (callFunc F (#[v] ++ caps)) W = .ok (.enter F (#[v] ++ caps)) W)
  (hcl : ∀ (v : Int) (W : World), Below w.heap.size w W → Calls Tryz.prog F (#[.int .i64 v] ++ caps) W (Says (G v) W)) :
  Calls Tryz.prog 151 #[.slice A n c, .func (.func F) #[] caps] w (Says (l.any G) w) := by
 have q := hide (indexFuncI_calls F caps G A n c l w lo hi h hn hF hcl);clear h hF hcl;go_enter Tryz.func151, Tryz.ntmps151;go_wp2_with fail;refine q.out.mono ?_;rintro e w1 ⟨i, rfl, hi, hb⟩;replace hi := hide hi;go_wp2_with fail;go_ret;exact ⟨ret_b hi.out.symm, hb⟩
theorem numsOf_snoc {f : List UInt8 → Option Int} : ∀ {l : List (List UInt8)} {ns : List Int} {x : List UInt8} {v : Int}, numsOf f l = some ns → f x = some v → numsOf f (l ++ [x]) = some (ns ++ [v])
 | [], ns, x, v, h, hf => by
  cases h
  show numsOf f [x] = _
  unfold numsOf;rw [hf]
  rfl
 | y :: l, ns, x, v, h, hf => by
  unfold numsOf at h
  split at h
  ·rename_i n ms hn hm
   cases h
   rw [List.cons_append];unfold numsOf;rw [hn, numsOf_snoc hm hf]
   rfl
  ·cases h
def dataL (l : List ByteArray) : List (List UInt8) := l.map (·.data.toList)
def NumsR (w w' : World) (n : Nat) (o : Option (List Int)) (e : Ending) : Prop :=
 match o with
 | none => e = .returned (.tuple #[.slice none 0 0, .bool false])
 | some ns => ∃ A c, e = .returned (.tuple #[.slice A n c, .bool true]) ∧ SlI w' w.heap.size w'.heap.size A n ns
theorem readNumbers_calls (A : Option Addr) (n c : Nat) (l : List ByteArray) (w : World) (lo hi : Nat) (h : SlS w lo hi A n l) (hn : n ≤ 1048577) (hs : ∀ s ∈ l, s.size ≤ 1048576) (he : Env w) :
  Calls Tryz.prog 51 #[.slice A n c] w fun e w' => NumsR w w' n (numsOf numS (dataL l)) e ∧ Below w.heap.size w w' := by
 have hE := hide elem_int;have hlen := hide h.len;replace hs := hide hs;go_enter Tryz.func51, Tryz.ntmps51
 go_wp2
 go_loopw [4, 11] (fun o i wr => ∃ (k : Nat) (A5 : Option Addr) (c5 : Nat) (L : List Int), k ≤ n ∧ o = .slice A5 k c5 ∧ i = .int .i64 (k : Nat) ∧ Hid (Own 1 iv wr w.heap.size 2 A5 k c5 L) ∧ Hid (numsOf numS ((dataL l).take k) = some L) ∧ Below w.heap.size w wr) (fun _ i _ => n - (intOf i).toNat)
 case atStart => exact ⟨0, none, 0, [], Nat.zero_le _, rfl, rfl, Own.nil_ _ _ _, rfl, bR⟩
 case round =>
  obtain ⟨k, A5, c5, L, hk, rfl, rfl, hown, hall, hb⟩ := hrel;have hz := hb.size
  by_cases hlt : k < n
  ·obtain ⟨bb, off, x, rfl, g1, g2, g3, hx, cc0, -⟩ := SlS.get h hlt
   replace cc0 := (hb.cell (p := ⟨bb, off + k, none⟩) g3).trans cc0;have hx2 : (dataL l)[k]? = some x.data.toList := by unfold dataL; rw [List.getElem?_map, hx]; rfl
   have q3 := readDecimal_calls x (hs.out x (List.mem_of_getElem? hx)) wr (he.below hb zR);have htk : (dataL l).take (k + 1) = (dataL l).take k ++ [x.data.toList] := by rw [List.take_add_one, hx2]; rfl
   cases hnx : numS x.data.toList with
   | none =>
    have hv : Hid (numsOf numS (dataL l) = none) := numsOf_none hx2 hnx;rw [hnx] at q3;have q4 : Hid (Calls Tryz.prog 115 #[.string x] wr fun e w' => e = .returned (.tuple #[.int .i64 0, .bool false]) ∧ Below wr.heap.size wr w') := q3;clear hx hx2 hnx q3 htk hall hown h he;go_wp2_with fail;refine q4.out.mono ?_;rintro e w2 ⟨rfl, hb2⟩;go_wp2_with fail;go_ret2;refine ⟨?_, hb.trans (hb2.mono hz)⟩;rw [hv.out]
    rfl
   | some v =>
    have hnext : Hid (numsOf numS ((dataL l).take (k + 1)) = some (L ++ [v])) := by
     show _ = _
     rw [htk];exact numsOf_snoc hall.out hnx
    rw [hnx] at q3;have q4 : Hid (Calls Tryz.prog 115 #[.string x] wr fun e w' => e = .returned (.tuple #[.int .i64 v, .bool true]) ∧ Below wr.heap.size wr w') := q3;clear hx hx2 hnx q3 htk hall h he;go_wp2_with fail;refine q4.out.mono ?_;rintro e w2 ⟨rfl, hb2⟩;have hown2 := hide (hown.out.below hb2 zR);have hb3 := hb.trans (hb2.mono hz);have hz3 := hb3.size;have hza : ∀ o, w.heap.size ≤ (w2.alloc o).heap.size := fun o => by rw [World.size_alloc]; omega
    clear hb2 hown;go_wp2_with (first | (at_builtin; (with_reducible refine wpList_app rfl (.tmp 22) (.tmp 24) rfl hE.out flat_iv rfl (hown2.out.alloc _) rfl (Sl.lit1' w2 2 v _ rfl 1 _ ?c0) ?c1 (hza _) ?_); rotate_right; intro A7 c7 w7 hown7 hgr7 hb7 _))
    case c0 => rfl
    case c1 => omega
    go_roundw
    case rel => exact ⟨k + 1, A7, c7, L ++ [v], by omega, rfl, by go_num, hown7, hnext, (hb3.alloc hz3 _).trans hb7⟩
    case measure => simp [intOf]; omega
  ·have hkn : k = n := by omega
   subst hkn;have hv : Hid (numsOf numS (dataL l) = some L) := by
    have := hall.out;rw [List.take_of_length_le (by unfold dataL; rw [List.length_map, hlen.out]; exact zR)] at this;exact this
   go_wp2_with fail;go_ret2
   refine ⟨?_, hb⟩;rw [hv.out];exact ⟨A5, c5, rfl, hown.out.sl flat_iv⟩
theorem isValue_calls (v : Int) (w : World) : Calls Tryz.prog 362 #[.int .i64 v] w fun e w' => e = .returned (.bool (inB v 0 63)) ∧ w = w' := by
 have q := hide (within_calls v 0 63 w);go_enter Tryz.func362, Tryz.ntmps362;go_wp2_with fail;refine q.out.mono ?_;rintro e w1 ⟨rfl, rfl⟩;go_wp2_with fail;go_ret;exact ⟨rfl, rfl⟩
theorem areValues1_calls (v : Int) (w : World) : Calls Tryz.prog 361 #[.int .i64 v] w (Says (!(inB v 0 63)) w) := by
 have q := hide (isValue_calls v w);go_enter Tryz.func361, Tryz.ntmps361;go_wp2_with fail;refine q.out.mono ?_;rintro e w1 ⟨rfl, rfl⟩;go_wp2_with fail;go_ret;exact ⟨rfl, bR⟩
theorem areValues_calls (A : Option Addr) (n c : Nat) (L : List Int) (w : World) (lo hi : Nat) (h : SlI w lo hi A n L) (hn : n ≤ 1048576) :
  Calls Tryz.prog 317 #[.slice A n c] w (Says (L.all isVal) w) := by
 have q := hide (containsFuncI_calls 361 #[] (fun v => !(inB v 0 63)) A n c L w lo hi h hn (fun v W => by kernel_rfl) (fun v W _ => areValues1_calls v W));have hv : Hid (L.all isVal = !(L.any fun v => !(inB v 0 63))) := by
  show _ = _
  have : isVal = fun v => inB v 0 63 := rfl
  rw [this, List.not_any_eq_all_not]
  simp
 clear h;go_enter Tryz.func317, Tryz.ntmps317;go_wp2_with fail;refine q.out.mono ?_;rintro e w1 ⟨rfl, hb⟩;go_wp2_with fail;go_ret;exact ⟨ret_b (by rw [hv.out]), hb⟩
theorem join_len (sep : List UInt8) (m : Nat) : ∀ xs : List (List UInt8), (∀ x ∈ xs, x.length ≤ m) → (Lib.join xs sep).length ≤ xs.length * (m + sep.length)
 | [], _ => by rw [Lib.join_nil]; simp
 | [x], h => by
  rw [Lib.join_one];have := h x (by simp)
  simp
  omega
 | x :: y :: r, h => by
  have ih := join_len sep m (y :: r) (fun z hz => h z (List.mem_cons_of_mem _ hz));have hx := h x (by simp);rw [join_cons2, List.length_append, List.length_append, List.length_cons, Nat.add_mul];omega
def decB (n : Int) : ByteArray := ⟨(Lib.itoa n).toArray⟩
theorem joined_calls (A : Option Addr) (n c : Nat) (L : List Int) (w : World) (lo hi : Nat) (h : SlI w lo hi A n L) (hn : n ≤ 1048576) (hL : ∀ v ∈ L, -9223372036854775808 ≤ v ∧ v ≤ 9223372036854775807) (he : Env w) :
  Calls Tryz.prog 55 #[.slice A n c, .string ⟨#[44]⟩] w fun e w' => e = .returned (.string (mkB (Lib.join (L.map Lib.itoa) [44]))) ∧ Below w.heap.size w w' := by
 obtain ⟨i0, hi0, hz0, hz1, hz2⟩ := info_parts info_string;have hmk := fun W => make_row (P := Tryz.prog) 24 9 i0 _ _ n Tryz.underlying24 hi0 hz0 hz1 (by rw [hz2]; omega) (by omega) W
 clear hi0 hz0 hz1 hz2;have hlen := hide h.len;replace hL := hide hL;go_enter Tryz.func55, Tryz.ntmps55
 go_wp2
 go_loopw [13] (fun i wr => ∃ k : Nat, k ≤ n ∧ i = .int .i64 k ∧ Below w.heap.size w wr ∧ Fill 1 strv wr w.heap.size 9 n k (L.map decB)) (fun i _ => n - (intOf i).toNat)
 case atStart => exact ⟨0, Nat.zero_le _, rfl, bR.alloc zR _, Fill.start _ _ _ _ (by simp [madeCells])⟩
 case round =>
  obtain ⟨k, hk, rfl, hb, hf⟩ := hrel;clear hmk
  by_cases hlt : k < n
  ·obtain ⟨b, off, x, rfl, g1, g2, g3, hx, c0, -⟩ := h.get hlt
   replace c0 := (hb.cell (p := ⟨b, off + k, none⟩) g3).trans c0;have hxb := hL.out x (List.mem_of_getElem? hx);have q := hide (decimal_calls x hxb.1 hxb.2 wr (he.below hb zR));have hx2 : Hid ((L.map decB)[k]? = some (decB x)) := by show _ = _; rw [List.getElem?_map, hx]; rfl
   clear h hx hxb he;go_wp2_with fail;refine q.out.mono ?_;rintro e w1 ⟨rfl, hb1⟩;have hf1 := hf.keep (hb1.block _ hf.lt);obtain ⟨v0, d0⟩ := hf1.cell (i := k) (by omega);have z0 := hf1.frozen k;go_wp2_with fail;go_roundw
   case rel => exact ⟨k + 1, by omega, by go_num, (hb.trans (hb1.mono hb.size)).setCell zR _, hf1.set1 hlt (fun _ => rfl) hx2.out rfl⟩
   case measure => simp [intOf]; omega
  ·have hkn : k = n := by omega
   subst hkn;have hml : (L.map decB).length = k := by rw [List.length_map]; exact hlen.out
   have hsl := hf.done hml zR hf.lt;have hdat : (L.map decB).map (·.data.toList) = L.map Lib.itoa := by rw [List.map_map]; rfl
   have hjl := join_len [44] 21 (L.map Lib.itoa) (fun y hy => by
    obtain ⟨v, hv, rfl⟩ := List.mem_map.1 hy;exact Lib.itoa_length_le v (hL.out v hv).1 (hL.out v hv).2)
   rw [List.length_map, hlen.out, show 21 + ([44] : List UInt8).length = 22 from rfl] at hjl;have q : Calls Tryz.prog 123 #[.slice (some ⟨w.heap.size, 0, none⟩) k k, .string ⟨#[44]⟩] wr fun e w' => e = .returned (.string (mkB (Lib.join (L.map Lib.itoa) [44]))) ∧ Below wr.heap.size wr w' := by
    have := Tryz.strings_Join w.heap.size 0 k (L.map decB) ⟨#[44]⟩ wr (fun j x hx => by
     have hj : j < k := by rw [← hml]; exact (List.getElem?_eq_some_iff.1 hx).1
     obtain ⟨b, off, e1, _, _, _, hcell⟩ := hsl.at_ (by omega);cases e1;have := (hcell j x hx 0 _ rfl).1
     simpa using this) hf.lt (by rw [hml]; omega) (by rw [hml]; exact zR) (by
      rw [hdat]
      show (Lib.join (L.map Lib.itoa) [44]).length ≤ _
      omega)
    rw [hml, hdat] at this;exact this
   replace q := hide q;clear h hsl hdat hjl he;go_wp2_with fail;refine q.out.mono ?_;rintro e w1 ⟨rfl, hb1⟩;go_wp2_with fail;go_ret;exact ⟨rfl, hb.trans (hb1.mono hb.size)⟩
theorem nameB_len {s : ByteArray} (h : nameB s = true) : s.size ≤ 10 := by
 unfold nameB at h;rw [Bool.and_eq_true, decide_eq_true_eq] at h;exact h.2.2
theorem isAction_calls (s : ByteArray) (w : World) (hs : s.size ≤ 1048576) : Calls Tryz.prog 178 #[.string s] w fun e w' => e = .returned (.bool (actB s)) ∧ w = w' := by
 have q := isName_calls s w (by unfold maxLen; omega)
 by_cases hn : nameB s = true
 ·rw [hn] at q
  replace q := hide q
  by_cases ht : s = tauB
  ·have hv : Hid (actB s = false) := by show _ = _; unfold actB; simp [ht]
   subst ht;clear hn;go_enter Tryz.func178, Tryz.ntmps178;go_wp2_with (first | (go_at_call 250; (with_reducible refine q.out.mono ?_); rintro e w1 ⟨rfl, rfl⟩));go_ret;exact ⟨ret_b (by rw [hv.out, tau_list]; rfl), rfl⟩
  ·have hv : Hid (actB s = true) := by show _ = _; unfold actB; simp [ht, hn]
   have hne := tau_ne ht;clear hn ht;go_enter Tryz.func178, Tryz.ntmps178;go_wp2_with (first | (go_at_call 250; (with_reducible refine q.out.mono ?_); rintro e w1 ⟨rfl, rfl⟩));go_ret;exact ⟨ret_b (by rw [hv.out]), rfl⟩
 ·replace hn := Bool.eq_false_iff.2 hn
  have hv : Hid (actB s = false) := by show _ = _; unfold actB; rw [hn]; rfl
  rw [hn] at q;replace q := hide q;clear hn;go_enter Tryz.func178, Tryz.ntmps178;go_wp2_with (first | (go_at_call 250; (with_reducible refine q.out.mono ?_); rintro e w1 ⟨rfl, rfl⟩));go_ret;exact ⟨ret_b (by rw [hv.out]), rfl⟩
theorem isVal_bounds {L : List Int} (h : L.all isVal = true) : ∀ v ∈ L, -9223372036854775808 ≤ v ∧ v ≤ 9223372036854775807 := fun v hv => by
 have := (List.all_eq_true.1 h) v hv
 simp [isVal] at this
 omega
def LabR (w w' : World) (o : Option (List UInt8)) (e : Ending) : Prop := ∃ t b, e = .returned (.tuple #[.string t, .bool b]) ∧ o = (if b then some t.data.toList else none) ∧ Below w.heap.size w w'
theorem labelOf_calls (nm : ByteArray) (A : Option Addr) (n c : Nat) (L : List Int) (w : World) (lo hi : Nat) (hs : nm.size ≤ 1048576) (h : SlI w lo hi A n L) (hn : n ≤ 1048577) (he : Env w) :
  Calls Tryz.prog 254 #[.string nm, .slice A n c] w fun e w' => LabR w w' (labOf nameL nm.data.toList L) e := by
 have hlen := h.len;have hq1 := isAction_calls nm w hs
 by_cases ht : nm = tauB
 ·have htl : nm.data.toList = tauL := by rw [ht]; rfl
  by_cases h0 : n = 0
  ·have hL0 : L = [] := List.eq_nil_of_length_eq_zero (by omega)
   have hv : Hid (labOf nameL nm.data.toList L = some tauL) := by show _ = _; unfold labOf; rw [if_pos htl, if_pos hL0]
   subst h0 ht;clear hL0 htl hlen hq1 h he;have htt : (tauB.toList == [116, 97, 117]) = true := by rw [tau_list]; rfl
   go_enter Tryz.func254, Tryz.ntmps254;go_wp2_with fail;go_ret2;exact ⟨tauB, true, rfl, by rw [hv.out]; rfl, bR⟩
  ·have hL0 : L ≠ [] := by rintro rfl; simp at hlen; omega
   have hv : Hid (labOf nameL nm.data.toList L = none) := by show _ = _; unfold labOf; rw [if_pos htl, if_neg hL0]
   have hb0 : ((n : Int) == 0) = false := by rw [beq_eq_false_iff_ne]; omega
   subst ht;clear hL0 htl hlen hq1 h he;have htt : (tauB.toList == [116, 97, 117]) = true := by rw [tau_list]; rfl
   go_enter Tryz.func254, Tryz.ntmps254;go_wp2_with fail;go_ret2;exact ⟨tauB, false, rfl, by rw [hv.out]; rfl, bR⟩
 ·have htl : nm.data.toList ≠ tauL := fun e => ht (by rw [← bytes_eta nm, e]; rfl)
  have hact : actB nm = nameB nm := by unfold actB; rw [decide_eq_false ht]; simp
  have hne := tau_ne ht;have hq2 := areValues_calls A n c L w lo hi h
  cases hnm : nameB nm with
  | false =>
   have hv : Hid (labOf nameL nm.data.toList L = none) := by show _ = _; unfold labOf; rw [if_neg htl, nameL_data, hnm]; rfl
   rw [hact, hnm] at hq1;replace hq1 := hide hq1;clear hact htl ht hnm h he hq2 hlen;go_enter Tryz.func254, Tryz.ntmps254;go_wp2_with (first | (go_at_call 178; (with_reducible refine hq1.out.mono ?_); rintro e w1 ⟨rfl, rfl⟩));go_ret2;exact ⟨⟨#[]⟩, false, rfl, by rw [hv.out]; rfl, bR⟩
  | true =>
   rw [hact, hnm] at hq1;replace hq1 := hide hq1
   by_cases h2 : 2 < n
   ·have hv : Hid (labOf nameL nm.data.toList L = none) := by
     show _ = _
     unfold labOf;rw [if_neg htl, nameL_data, hnm, if_pos (by rw [hlen]; simp [h2])]
    have h2I : (2 : Int) < (n : Int) := by omega
    clear hact htl ht hnm h he hq2 hlen;go_enter Tryz.func254, Tryz.ntmps254;go_wp2_with (first | (go_at_call 178; (with_reducible refine hq1.out.mono ?_); rintro e w1 ⟨rfl, rfl⟩));go_ret2;exact ⟨⟨#[]⟩, false, rfl, by rw [hv.out]; rfl, bR⟩
   ·replace hq2 := hq2 (by omega)
    have h2I : ¬ (2 : Int) < (n : Int) := by omega
    have h2L : ¬ 2 < L.length := by omega
    cases hall : L.all isVal with
    | false =>
     have hv : Hid (labOf nameL nm.data.toList L = none) := by
      show _ = _
      unfold labOf;rw [if_neg htl, nameL_data, hnm, if_pos (by rw [hall]; simp)]
     rw [hall] at hq2;replace hq2 := hide hq2;clear hact htl ht hnm h he hlen hall h2 h2L;go_enter Tryz.func254, Tryz.ntmps254;go_wp2_with (first | (go_at_call 178; (with_reducible refine hq1.out.mono ?_); rintro e w1 ⟨rfl, rfl⟩) | (go_at_call 317; (with_reducible refine hq2.out.mono ?_); rintro e w2 ⟨rfl, hb2⟩));go_ret2;exact ⟨⟨#[]⟩, false, rfl, by rw [hv.out]; rfl, hb2⟩
    | true =>
     rw [hall] at hq2;replace hq2 := hide hq2;have hcond : ¬ ((!(nameL nm.data.toList) || decide (2 < L.length) || !(L.all isVal)) = true) := by rw [nameL_data, hnm, hall, decide_eq_false h2L]; decide
     by_cases h0 : n = 0
     ·have hL0 : L = [] := List.eq_nil_of_length_eq_zero (by omega)
      have hv : Hid (labOf nameL nm.data.toList L = some nm.data.toList) := by
       show _ = _
       unfold labOf;rw [if_neg htl, if_neg hcond, if_pos hL0]
      subst h0;clear hact htl ht hnm h he hlen hall h2 h2L hcond hL0;go_enter Tryz.func254, Tryz.ntmps254;go_wp2_with (first | (go_at_call 178; (with_reducible refine hq1.out.mono ?_); rintro e w1 ⟨rfl, rfl⟩) | (go_at_call 317; (with_reducible refine hq2.out.mono ?_); rintro e w2 ⟨rfl, hb2⟩));go_ret2;exact ⟨nm, true, rfl, by rw [hv.out]; rfl, hb2⟩
     ·have hL0 : L ≠ [] := by rintro rfl; simp at hlen; omega
      have hb0 : ((n : Int) == 0) = false := by rw [beq_eq_false_iff_ne]; omega
      have q3 := hide (fun (W : World) (hW : Below w.heap.size w W) => joined_calls A n c L W lo hi (h.below hW (.inr zR)) (by omega) (isVal_bounds hall) (he.below hW zR));have hjl := join_len [44] 21 (L.map Lib.itoa) (fun y hy => by
       obtain ⟨v, hv, rfl⟩ := List.mem_map.1 hy;exact Lib.itoa_length_le v (isVal_bounds hall v hv).1 (isVal_bounds hall v hv).2)
      rw [List.length_map, show 21 + ([44] : List UInt8).length = 22 from rfl] at hjl;have hv : Hid (labOf nameL nm.data.toList L = some (nm.data.toList ++ [40] ++ Lib.join (L.map Lib.itoa) [44] ++ [41])) := by
       show _ = _
       unfold labOf;rw [if_neg htl, if_neg hcond, if_neg hL0]
      have hjs : (mkB (Lib.join (L.map Lib.itoa) [44])).size ≤ 44 := by rw [mkB_size]; omega
      have hnms := nameB_len hnm;have hjd : Hid ((mkB (Lib.join (L.map Lib.itoa) [44])).data.toList = Lib.join (L.map Lib.itoa) [44]) := rfl;clear hact htl ht hnm h he hlen hall h2 h2L hcond hL0 hjl;generalize mkB (Lib.join (L.map Lib.itoa) [44]) = J at *;go_enter Tryz.func254, Tryz.ntmps254;go_wp2_with (first | (go_at_call 178; (with_reducible refine hq1.out.mono ?_); rintro e w1 ⟨rfl, rfl⟩) | (go_at_call 317; (with_reducible refine hq2.out.mono ?_); rintro e w2 ⟨rfl, hb2⟩));refine (q3.out _ hb2).mono ?_;rintro e w3 ⟨rfl, hb3⟩;go_wp2_with fail;go_ret2;refine ⟨_, true, rfl, ?_, hb2.trans (hb3.mono hb2.size)⟩;rw [hv.out, ← hjd.out]
      simp [ByteArray.data_append]
theorem nameL_tau : nameL tauL = true := by decide
def numsR (l : List UInt8) : Option (List Int) := if (Lib.cut l [40]).2.2 then numsOf numS (splitC 44 (Lib.trimSuffix (Lib.cut l [40]).2.1 [41])) else some []
theorem labS_none {s : ByteArray} (h : numsR s.data.toList = none) : labS s = false := by
 unfold labS;rw [← valsP_eq nameL nameL_tau];unfold valsP;rw [numP_fun];unfold numsR at h;rw [h]
 rfl
theorem labS_some {s : ByteArray} {ns : List Int} (h : numsR s.data.toList = some ns) : labS s = decide (labOf nameL (Lib.cut s.data.toList [40]).1 ns = some s.data.toList) := by
 unfold labS;rw [← valsP_eq nameL nameL_tau];unfold valsP;rw [numP_fun];unfold numsR at h;rw [h]
 by_cases hc : labOf nameL (Lib.cut s.data.toList [40]).1 ns = some s.data.toList
 ·simp only [if_pos hc, decide_eq_true hc]
  rfl
 ·simp only [if_neg hc, decide_eq_false hc]
  rfl
theorem Sl.laid (w : World) (t : TypeId) (l : List ByteArray) (lo : Nat) (hlo : lo ≤ w.heap.size) : SlS (w.alloc (.cells (l.map Value.string).toArray t)) lo (w.heap.size + 1) (some ⟨w.heap.size, 0, none⟩) l.length l := by
 refine ⟨rfl, fun _ => ⟨w.heap.size, 0, rfl, hlo, by omega, by simp, fun k x hx j u hu => ?_⟩⟩
 match j, hu with
 | 0, hu =>
  simp [strv] at hu
  subst hu;simp only [Nat.zero_add, Nat.mul_one, Nat.add_zero];have hg := heap_alloc_new w (.cells (l.map Value.string).toArray t);refine ⟨(cell_of_row _ _ k _ t (0, 0) hg).trans ?_, frozen_of_row _ _ _ _ t hg⟩
  simp [hx]
theorem split_data (t : ByteArray) : (Lib.splitB ⟨#[44]⟩ 0 (Lib.countB t ⟨#[44]⟩) t).map (·.data.toList) = splitC 44 t.data.toList := by
 rw [Lib.splitB_data, ← split_one]
 rfl
theorem split_calls (t : ByteArray) (w : World) (hs : t.size ≤ 1048576) (he : Env w) :
  Calls Tryz.prog 50 #[.string t, .string ⟨#[44]⟩] w fun e w' => ∃ A n PB, e = .returned (.slice A n n) ∧ SlS w' w.heap.size w'.heap.size A n PB ∧ dataL PB = splitC 44 t.data.toList ∧ n ≤ 1048577 ∧ (∀ s ∈ PB, s.size ≤ 1048576) ∧ Below w.heap.size w w' := by
 have hc := Lib.splitB_all ⟨#[44]⟩ (by decide) 0 _ t rfl;have hd := split_data t;refine (Tryz.strings_Split_shaped t ⟨#[44]⟩ w he.good.shape (by omega) (by decide)).mono ?_;rintro e w' ⟨rfl, rfl⟩;generalize Lib.splitB ⟨#[44]⟩ 0 (Lib.countB t ⟨#[44]⟩) t = PB at *;rw [← hc];refine ⟨_, _, PB, rfl, ?_, hd, ?_, ?_, bR.alloc zR _⟩
 ·rw [World.size_alloc]
  exact Sl.laid w _ PB _ zR
 ·have h1 := splitC_len 44 t.data.toList
  rw [← hd, List.length_map, bsize] at h1;omega
 ·intro s hsm
  have h1 := splitC_mem_len 44 t.data.toList s.data.toList (by rw [← hd]; exact List.mem_map.2 ⟨s, hsm, rfl⟩);rw [bsize, bsize] at h1;omega
def ReadLab (w w' : World) (s : ByteArray) (e : Ending) : Prop := ∃ nm A n c, e = .returned (.tuple #[.string nm, .slice A n c, .bool (labS s)]) ∧ nm = (if labS s then mkB (Lib.cut s.data.toList [40]).1 else ⟨#[]⟩) ∧ Below w.heap.size w w'
theorem readLabel_calls (s : ByteArray) (w : World) (hs : s.size ≤ 1048576) (he : Env w) :
  Calls Tryz.prog 186 #[.string s] w fun e w' => ReadLab w w' s e := by
 have q0 : Calls Tryz.prog 252 #[.string s, .string ⟨#[40]⟩] w fun e w' => e = .returned (.tuple #[.string (mkB (Lib.cut s.data.toList [40]).1), .string (mkB (Lib.cut s.data.toList [40]).2.1), .bool (Lib.cut s.data.toList [40]).2.2]) ∧ Below w.heap.size w w' :=
  (Tryz.strings_Cut_shaped s ⟨#[40]⟩ w he.good.shape (by omega)).mono fun e w' ⟨a, n, b⟩ => ⟨a, b ▸ below_drewN w n⟩
 have hS := @labS_some s;have hN := @labS_none s;have hlen : (Lib.cut s.data.toList [40]).1.length ≤ 1048576 ∧ (Lib.cut s.data.toList [40]).2.1.length ≤ 1048576 := by
  unfold Lib.cut;have := bsize s
  split <;> simp only [List.length_take, List.length_drop, List.length_nil] <;> omega
 unfold numsR at hS hN;generalize hcut : Lib.cut s.data.toList [40] = C at *;obtain ⟨a, b, more⟩ := C;dsimp only at *;replace hcut := hide hcut;have has : (mkB a).size ≤ 1048576 := by rw [mkB_size]; exact hlen.1
 replace q0 := hide q0;have q5 := fun (A : Option Addr) (n c : Nat) (L : List Int) (W : World) (lo hi : Nat) (h : SlI W lo hi A n L) (hn : n ≤ 1048577) (hW : Below w.heap.size w W) => labelOf_calls (mkB a) A n c L W lo hi has h hn (he.below hW zR)
 rw [mkB_data] at q5;replace q5 := hide q5
 cases more with
 | false =>
  have hS2 := hide (hS (ns := []) rfl);clear hS hN he;go_enter Tryz.func186, Tryz.ntmps186;go_wp2_with fail;refine q0.out.mono ?_;rintro e w1 ⟨rfl, hb1⟩;go_wp2_with fail;refine (q5.out none 0 0 [] w1 0 0 Sl.nil_ (by omega) hb1).mono ?_;rintro e w9 ⟨t, ok, rfl, hok, hb9⟩;replace hb9 := hb1.trans (hb9.mono hb1.size)
  cases ok with
  | false =>
   have hv : Hid (labS s = false) := by
    show _ = _
    rw [hS2.out, hok]
    simp
   clear hS2 hok;go_wp2_with fail
   go_returns
   exact ⟨⟨#[]⟩, none, 0, 0, by rw [hv.out]; rfl, by rw [hv.out]; rfl, hb9⟩
  | true =>
   by_cases hts : t = s
   ·have hv : Hid (labS s = true) := by
     show _ = _
     rw [hS2.out, hok, hts]
     simp
    subst hts;clear hS2 hok;go_wp2_with fail
    go_returns
    exact ⟨mkB a, none, 0, 0, by rw [hv.out]; rfl, by rw [hv.out, hcut.out]; rfl, hb9⟩
   ·have hv : Hid (labS s = false) := by
     show _ = _
     rw [hS2.out, hok, decide_eq_false_iff_not];intro e
     apply hts
     have := Option.some.inj e;rw [← bytes_eta t, this, bytes_eta]
    have hne := str_neq hts;clear hS2 hok hts;go_wp2_with fail
    go_returns
    exact ⟨⟨#[]⟩, none, 0, 0, by rw [hv.out]; rfl, by rw [hv.out]; rfl, hb9⟩
 | true =>
  simp only [if_true] at hS hN;have q1 : ∀ W, Calls Tryz.prog 253 #[.string (mkB b), .string ⟨#[41]⟩] W fun e w' => e = .returned (.string (mkB (Lib.trimSuffix b [41]))) ∧ w' = W := fun W => Tryz.strings_TrimSuffix (mkB b) ⟨#[41]⟩ W (by rw [mkB_size]; omega)
  have htl : (Lib.trimSuffix b [41]).length ≤ 1048576 := by
   unfold Lib.trimSuffix
   split
   ·rw [List.length_take]; omega
   ·exact hlen.2
  have q2 := fun (W : World) (hW : Below w.heap.size w W) => split_calls (mkB (Lib.trimSuffix b [41])) W (by rw [mkB_size]; exact htl) (he.below hW zR)
  rw [mkB_data] at q2;have q3 := fun (A : Option Addr) (n c : Nat) (l : List ByteArray) (W : World) (lo hi : Nat) (h : SlS W lo hi A n l) (hn : n ≤ 1048577) (hss : ∀ s ∈ l, s.size ≤ 1048576) (hW : Below w.heap.size w W) => readNumbers_calls A n c l W lo hi h hn hss (he.below hW zR)
  replace q1 := hide q1;replace q2 := hide q2;replace q3 := hide q3;clear he htl hlen
  cases hns : numsOf numS (splitC 44 (Lib.trimSuffix b [41])) with
  | none =>
   have hv : Hid (labS s = false) := hN hns;replace hns := hide hns;clear hS hN q5;go_enter Tryz.func186, Tryz.ntmps186;go_wp2_with fail;refine q0.out.mono ?_;rintro e w1 ⟨rfl, hb1⟩;go_wp2_with fail;refine (q1.out _).mono ?_;rintro e w2 ⟨rfl, rfl⟩;go_wp2_with fail;refine (q2.out _ hb1).mono ?_;rintro e w3 ⟨A3, n3, PB, rfl, hsl, hdat, hn3, hps, hb3⟩;replace hb3 := hb1.trans (hb3.mono hb1.size);have q4 := q3.out A3 n3 n3 PB w3 _ _ hsl hn3 hps hb3;rw [hdat, hns.out] at q4;replace q4 := hide q4;clear hsl hdat hps;go_wp2_with fail;refine q4.out.mono ?_;rintro e w4 ⟨he4, hb4⟩
   change e = _ at he4
   subst he4;go_wp2_with fail
   go_returns
   exact ⟨⟨#[]⟩, none, 0, 0, by rw [hv.out]; rfl, by rw [hv.out]; rfl, hb3.trans (hb4.mono hb3.size)⟩
  | some ns =>
   have hS2 := hide (hS hns);replace hns := hide hns;clear hS hN;go_enter Tryz.func186, Tryz.ntmps186;go_wp2_with fail;refine q0.out.mono ?_;rintro e w1 ⟨rfl, hb1⟩;go_wp2_with fail;refine (q1.out _).mono ?_;rintro e w2 ⟨rfl, rfl⟩;go_wp2_with fail;refine (q2.out _ hb1).mono ?_;rintro e w3 ⟨A3, n3, PB, rfl, hsl, hdat, hn3, hps, hb3⟩;replace hb3 := hb1.trans (hb3.mono hb1.size);have q4 := q3.out A3 n3 n3 PB w3 _ _ hsl hn3 hps hb3;rw [hdat, hns.out] at q4;replace q4 := hide q4;clear hsl hdat hps;go_wp2_with fail;refine q4.out.mono ?_;rintro e w4 ⟨⟨A4, c4, rfl, hs4⟩, hb4⟩;replace hb4 := hb3.trans (hb4.mono hb3.size);replace hs4 := hide hs4;go_wp2_with fail;refine (q5.out A4 n3 c4 ns w4 _ _ hs4.out hn3 hb4).mono ?_;rintro e w9 ⟨t, ok, rfl, hok, hb9⟩;replace hb9 := hb4.trans (hb9.mono hb4.size)
   cases ok with
   | false =>
    have hv : Hid (labS s = false) := by
     show _ = _
     rw [hS2.out, hok]
     simp
    clear hS2 hok;go_wp2_with fail
    go_returns
    exact ⟨⟨#[]⟩, none, 0, 0, by rw [hv.out]; rfl, by rw [hv.out]; rfl, hb9⟩
   | true =>
    by_cases hts : t = s
    ·have hv : Hid (labS s = true) := by
      show _ = _
      rw [hS2.out, hok, hts]
      simp
     subst hts;clear hS2 hok;go_wp2_with fail
     go_returns
     exact ⟨mkB a, A4, n3, c4, by rw [hv.out]; rfl, by rw [hv.out, hcut.out]; rfl, hb9⟩
    ·have hv : Hid (labS s = false) := by
      show _ = _
      rw [hS2.out, hok, decide_eq_false_iff_not];intro e
      apply hts
      have := Option.some.inj e;rw [← bytes_eta t, this, bytes_eta]
     have hne := str_neq hts;clear hS2 hok hts;go_wp2_with fail
     go_returns
     exact ⟨⟨#[]⟩, none, 0, 0, by rw [hv.out]; rfl, by rw [hv.out]; rfl, hb9⟩
theorem isLabel_calls (s : ByteArray) (w : World) (hs : s.size ≤ 1048576) (he : Env w) :
  Calls Tryz.prog 120 #[.string s] w fun e w' => e = .returned (.bool (labS s)) ∧ Below w.heap.size w w' := by
 have q := hide (readLabel_calls s w hs he);clear he;go_enter Tryz.func120, Tryz.ntmps120;go_wp2_with fail;refine q.out.mono ?_;rintro e w1 ⟨nm, A, n, c, rfl, -, hb⟩;go_wp2_with fail;go_ret;exact ⟨rfl, hb⟩
open Go.Sort
theorem labS_tau : labS tauB = true := by
 have h : (40 : UInt8) ∉ tauB.data.toList := by decide
 rw [labS_miss h]
 decide
def sLess (a b : ByteArray) : Bool := Op.bytesLess a.toList b.toList
theorem bytesLess_total : ∀ a b : List UInt8, (!(Op.bytesLess a b || a == b)) = Op.bytesLess b a
 | [], [] => rfl
 | [], _ :: _ => by simp [Op.bytesLess]
 | _ :: _, [] => by simp [Op.bytesLess]
 | x :: a, y :: b => by
  have ih := bytesLess_total a b;simp only [Op.bytesLess]
  by_cases h1 : x = y
  ·subst h1
   have h2 : ¬ x < x := by rw [UInt8.lt_iff_toNat_lt]; omega
   simp only [decide_eq_false h2, Bool.false_or, beq_self_eq_true, Bool.true_and];rw [← ih]
   congr 2
   simp
  ·have h3 : ¬ y = x := fun e => h1 e.symm
   have hn : x.toNat ≠ y.toNat := fun e => h1 (UInt8.toNat_inj.1 e)
   by_cases h2 : x < y
   ·have h4 : ¬ y < x := by rw [UInt8.lt_iff_toNat_lt] at h2 ⊢; omega
    simp [h2, h3, h4]
   ·have h4 : y < x := by rw [UInt8.lt_iff_toNat_lt] at h2 ⊢; omega
    simp [h1, h2, h4]
abbrev okL := okLab labS sLess
theorem okL_at {l : List ByteArray} {k : Nat} {x y : ByteArray} (hx : l[k]? = some x) (hk : 0 < k) (hy : l[k - 1]? = some y) : okL l k = ((labS x && !(decide (x = tauB))) && (decide (k ≤ 1) || sLess y x)) := by
 show okLab labS sLess l k = _
 unfold okLab;rw [hx, hy];have : decide (k = 0) = false := decide_eq_false (by omega);simp only [this]
 cases h : decide (x = tauB) <;> rfl
theorem okL_zero {l : List ByteArray} {x : ByteArray} (hx : l[0]? = some x) : okL l 0 = decide (x = tauB) := by
 show okLab labS sLess l 0 = _
 unfold okLab;rw [hx]
 by_cases h : x = tauB
 ·subst h
  simp [labS_tau]
 ·simp [h]
def namesB (l : List ByteArray) : Bool := inB (l.length : Int) 1 12 && allK (okL l) l.length
theorem same_regrown {f : FuncId} {args : Array Value} {w : World} {v : Value} (h : ∀ W, Calls Tryz.prog f args W fun e w' => e = .returned v ∧ W = w') (d : Nat) (os : Array Obj) :
  Calls Tryz.prog f args (grow (redrawn w d) os) fun e w'' => e = .returned v ∧ ∃ p : Regrown, w'' = grow (redrawn w p.d) p.os := (h _).mono fun _ _ ⟨a, b⟩ => ⟨a, ⟨d, os⟩, b.symm⟩
def LtsAt (w : World) (bt : Nat) (x : CL) (d : DL) : Prop := ReadL w 0 w.heap.size x d ∧ totL d ≤ 1048576 ∧ bt < w.heap.size ∧ w.cell? ⟨bt, 0, none⟩ = some (.int .i64 x.1) ∧ w.cell? ⟨bt, 1, none⟩ = some (.int .i64 x.2.1) ∧ w.cell? ⟨bt, 2, none⟩ = some x.2.2.1 ∧ w.cell? ⟨bt, 3, none⟩ = some x.2.2.2
theorem l11Less_calls (b1 o1 b2 o2 : Nat) (x1 x2 x3 y1 y2 y3 : Int) (w : World)
  (c0 : w.cell? ⟨b1, o1, none⟩ = some (.int .i64 x1)) (c1 : w.cell? ⟨b1, o1 + 1, none⟩ = some (.int .i64 x2)) (c2 : w.cell? ⟨b1, o1 + 2, none⟩ = some (.int .i64 x3))
  (d0 : w.cell? ⟨b2, o2, none⟩ = some (.int .i64 y1)) (d1 : w.cell? ⟨b2, o2 + 1, none⟩ = some (.int .i64 y2)) (d2 : w.cell? ⟨b2, o2 + 2, none⟩ = some (.int .i64 y3)) :
  Calls Tryz.prog 232 #[.pointer (some ⟨b1, o1, none⟩), .pointer (some ⟨b2, o2, none⟩)] w fun e w' => e = .returned (.bool (edLess (x1, x2, x3) (y1, y2, y3))) ∧ ∃ m, w' = w.drewN m := by
 by_cases h1 : x1 = y1
 ·subst h1
  by_cases h2 : x2 = y2
  ·subst h2
   have hv : Hid (edLess (x1, x2, x3) (x1, x2, y3) = decide (x3 < y3)) := by show _ = _; simp [edLess]
   go_enter Tryz.func232, Tryz.ntmps232
   go_wp2
   go_quiet (fail)
   go_wp2
   go_quiet (fail)
   go_wp2
   go_quiet (fail)
   go_wp2
   go_ret;exact ⟨ret_b (by rw [hv.out]), _, by rw [World.drewN_drewN, World.drewN_drewN]⟩
  ·have hv : Hid (edLess (x1, x2, x3) (x1, y2, y3) = decide (x2 < y2)) := by show _ = _; simp [edLess, h2]
   have hq : (x2 != y2) = true := by simpa using h2
   clear h2;go_enter Tryz.func232, Tryz.ntmps232
   go_wp2
   go_quiet (fail)
   go_wp2
   go_quiet (fail)
   go_wp2
   go_quiet (fail)
   go_wp2
   go_ret;exact ⟨ret_b (by rw [hv.out]), _, by rw [World.drewN_drewN, World.drewN_drewN]⟩
 ·have hv : Hid (edLess (x1, x2, x3) (y1, y2, y3) = decide (x1 < y1)) := by show _ = _; simp [edLess, h1]
  have hq : (x1 != y1) = true := by simpa using h1
  clear h1;go_enter Tryz.func232, Tryz.ntmps232
  go_wp2
  go_quiet (fail)
  go_wp2
  go_quiet (fail)
  go_wp2
  go_ret;exact ⟨ret_b (by rw [hv.out]), _, by rw [World.drewN_drewN]⟩
theorem okE_at {st m : Int} {es : List Ed} {k : Nat} {f lb tg : Int} {r : Ed} (hx : es[k]? = some (f, lb, tg)) (hk : 0 < k) (hy : es[k - 1]? = some r) : okEd st m es k = ((inB f 0 (st - 1) && (inB tg 0 (st - 1) && inB lb 0 (m - 1))) && edLess r (f, lb, tg)) := by
 unfold okEd;rw [hx, hy];have : decide (k = 0) = false := decide_eq_false (by omega);simp only [this, Bool.false_or, Bool.and_assoc]
theorem okE_zero {st m : Int} {es : List Ed} {f lb tg : Int} (hx : es[0]? = some (f, lb, tg)) : okEd st m es 0 = (inB f 0 (st - 1) && (inB tg 0 (st - 1) && inB lb 0 (m - 1))) := by
 unfold okEd;rw [hx]
 simp [Bool.and_assoc]
theorem okE_bad {st m : Int} {es : List Ed} {k : Nat} {f lb tg : Int} (hx : es[k]? = some (f, lb, tg)) (h : (inB f 0 (st - 1) && (inB tg 0 (st - 1) && inB lb 0 (m - 1))) = false) : okEd st m es k = false := by
 unfold okEd;rw [hx];simp only [Bool.and_assoc] at h ⊢;rw [← Bool.and_assoc, ← Bool.and_assoc, Bool.and_assoc (inB f 0 (st - 1)), h]
 rfl
abbrev ltsV := ltsB labS sLess
theorem ltsV_eq (st ini : Int) (ls : List ByteArray) (es : List Ed) : ltsV (st, ini, ls, es) = ((inB st 1 40 && (inB ini 0 (st - 1) && (namesB ls && decide (es.length ≤ 300)))) && allK (okEd st ls.length es) es.length) := by
 show ltsB labS sLess (st, ini, ls, es) = _
 unfold ltsB namesB;simp only
 cases inB st 1 40 <;> cases inB ini 0 (st - 1) <;> cases inB (ls.length : Int) 1 12 <;> cases decide (es.length ≤ 300) <;> cases allK (okLab labS sLess ls) ls.length <;> simp
theorem mem_le_sum : ∀ {l : List Nat} {x : Nat}, x ∈ l → x ≤ l.sum
 | y :: l, x, h => by
  rw [List.sum_cons]
  rcases List.mem_cons.1 h with rfl | h
  ·omega
  ·have := mem_le_sum h
   omega
theorem flat_ev : Flat ev 3 := ⟨fun _ => rfl, fun x u h => by simp [ev] at h; rcases h with rfl | rfl | rfl <;> rfl⟩
theorem elem_edge : Elem Tryz.prog 25 84 3 24 := Elem.of Tryz.underlying25 info_implEdge rfl (by decide) (by decide)
def outE (es : List Ed) (s : Int) : List Ed := es.filter fun e => decide (e.1 = s)
theorem outE_succ {es : List Ed} {k : Nat} {e : Ed} {s : Int} (hx : es[k]? = some e) : outE (es.take (k + 1)) s = outE (es.take k) s ++ (if e.1 = s then [e] else []) := by
 unfold outE;rw [List.take_add_one, hx, List.filter_append]
 congr 1
 by_cases h : e.1 = s <;> simp [h]
theorem l11Out_calls (bt : Nat) (x : CL) (d : DL) (s : Int) (w : World) (h : LtsAt w bt x d) :
  Calls Tryz.prog 145 #[.pointer (some ⟨bt, 0, none⟩), .int .i64 s] w fun e w' => ∃ A n c, e = .returned (.slice A n c) ∧ SlE w' w.heap.size w'.heap.size A n (outE d.2.2.2 s) ∧ n ≤ 1048576 ∧ Below w.heap.size w w' := by
 obtain ⟨s0, s1, v2, v3⟩ := x;obtain ⟨st, ini, ls, es⟩ := d;obtain ⟨⟨e0, e1, -, ⟨A3, n3, k3, e3, hn3, t3⟩⟩, htot, hbt, -, -, -, c3⟩ := h;dsimp only at *;subst e0 e1 e3;have l3 := hide t3.len;have hes : n3 ≤ 1048576 := by rw [← l3.out]; exact Nat.le_trans (totL_edg (s0, s1, ls, es)) htot
 have hE := hide elem_edge;replace t3 := hide t3;clear htot hn3;go_enter Tryz.func145, Tryz.ntmps145
 go_wp2
 go_loopw [5, 6] (fun o i wr => ∃ k m c A, k ≤ n3 ∧ m ≤ k ∧ o = .slice A m c ∧ i = .int .i64 (k : Nat) ∧ Hid (Own 3 ev wr w.heap.size 84 A m c (outE (es.take k) s)) ∧ Below w.heap.size w wr ∧ wr.cell? ⟨bt, 3, none⟩ = some (.slice A3 n3 k3)) (fun _ i _ => n3 - (intOf i).toNat)
 case atStart => exact ⟨0, 0, 0, _, Nat.zero_le _, zR, rfl, rfl, Own.made w 84 zR, bR.alloc zR _, (((Below.refl w.heap.size w).alloc zR _).cell (p := ⟨bt, 3, none⟩) hbt).trans c3⟩
 case round =>
  obtain ⟨k, m, c, A, hk, hmk, rfl, rfl, hown, hb, y3⟩ := hrel;clear c3;have hz := hb.size;have hza : ∀ o, w.heap.size ≤ (wr.alloc o).heap.size := fun o => by rw [World.size_alloc]; omega
  by_cases hlt : k < n3
  ·obtain ⟨b, off, f, lb, tg, rfl, g1, g2, g3, hx, a0, a1, a2, -, -, -⟩ := SlE.get t3.out hlt
   replace a0 := (hb.cell g3).trans a0;replace a1 := (hb.cell (p := ⟨b, off + k * 3 + 1, none⟩) g3).trans a1;replace a2 := (hb.cell (p := ⟨b, off + k * 3 + 2, none⟩) g3).trans a2;have hsu := outE_succ (s := s) hx;clear t3 hx g1 g2
   by_cases hf : f = s
   ·subst hf
    rw [if_pos rfl] at hsu;replace hsu := hide hsu;go_wp2_with (first | (at_builtin; (with_reducible refine wpList_app rfl (.tmp 27) (.tmp 35) rfl hE.out flat_ev rfl (hown.out.alloc _) rfl (Sl.lit1' wr 84 (f, lb, tg) _ rfl 3 _ ?c0) ?c1 (hza _) ?_); rotate_right; intro A5 c5 w5 hown5 hgr5 hb5 _))
    case c0 => rfl
    case c1 => omega
    have hb6 := (hb.alloc hz (.cells #[.int .i64 f, .int .i64 lb, .int .i64 tg] 84)).trans hb5;have y5 := (((hb.alloc hz (.cells #[.int .i64 f, .int .i64 lb, .int .i64 tg] 84)).trans hb5).cell (p := ⟨bt, 3, none⟩) hbt);have y30 := (hb.cell (p := ⟨bt, 3, none⟩) hbt);rw [y3] at y30;have y6 := y5.trans y30.symm;replace hown5 : Hid (Own 3 ev w5 w.heap.size 84 A5 (m + 1) c5 (outE (es.take (k + 1)) f)) := by show Own _ _ _ _ _ _ _ _ _; rw [hsu.out]; exact hown5
    go_roundw
    case rel => exact ⟨k + 1, m + 1, c5, A5, by omega, by omega, rfl, by go_num, hown5, hb6, y6⟩
    case measure => simp [intOf]; omega
   ·rw [if_neg hf, List.append_nil] at hsu
    have hfb : (f == s) = false := by rw [beq_eq_false_iff_ne]; exact hf
    replace hown : Hid (Own 3 ev wr w.heap.size 84 A m c (outE (es.take (k + 1)) s)) := by show Own _ _ _ _ _ _ _ _ _; rw [hsu]; exact hown.out
    clear hsu hf;go_wp2_with fail;go_roundw
    case rel => exact ⟨k + 1, m, c, A, by omega, by omega, rfl, by go_num, hown, hb, y3⟩
    case measure => simp [intOf]; omega
  ·have hkn : k = n3 := by omega
   have hall : es.take k = es := List.take_of_length_le (by rw [l3.out, hkn]; exact zR);have hsl := hide (hown.out.sl flat_ev);replace hall := hide hall;subst hkn;go_wp2_with fail;go_ret;have h1 := hsl.out;rw [hall.out] at h1;exact ⟨A, m, c, rfl, h1, by omega, hb⟩
theorem isNaN_calls (x : Int) (w : World) : Calls Tryz.prog 274 #[.int .i64 x] w fun e w' => e = .returned (.bool false) ∧ w = w' := by
 go_enter Tryz.func274, Tryz.ntmps274
 go_wp2
 go_ret;exact ⟨by simp, rfl⟩
def cmpI (x y : Int) : Int := if x < y then -1 else if y < x then 1 else 0
theorem compare_calls (x y : Int) (w : World) : Calls Tryz.prog 216 #[.int .i64 x, .int .i64 y] w fun e w' => e = .returned (.int .i64 (cmpI x y)) ∧ w = w' := by
 have q := hide isNaN_calls
 by_cases h1 : x < y
 ·have hv : Hid (cmpI x y = -1) := by show _ = _; unfold cmpI; rw [if_pos h1]
  go_enter Tryz.func216, Tryz.ntmps216;go_wp2_with (first | (go_at_call 274; (with_reducible refine (q.out _ _).mono ?_); rintro e w' ⟨rfl, rfl⟩));go_ret;exact ⟨ret_i (by rw [hv.out]), rfl⟩
 ·by_cases h2 : y < x
  ·have hv : Hid (cmpI x y = 1) := by show _ = _; unfold cmpI; rw [if_neg h1, if_pos h2]
   go_enter Tryz.func216, Tryz.ntmps216;go_wp2_with (first | (go_at_call 274; (with_reducible refine (q.out _ _).mono ?_); rintro e w' ⟨rfl, rfl⟩));go_ret;exact ⟨ret_i (by rw [hv.out]), rfl⟩
  ·have hv : Hid (cmpI x y = 0) := by show _ = _; unfold cmpI; rw [if_neg h1, if_neg h2]
   go_enter Tryz.func216, Tryz.ntmps216;go_wp2_with (first | (go_at_call 274; (with_reducible refine (q.out _ _).mono ?_); rintro e w' ⟨rfl, rfl⟩));go_ret;exact ⟨ret_i (by rw [hv.out]), rfl⟩
def orF (l : List Int) : Int := (l.find? fun x => decide (x ≠ 0)).getD 0
theorem orF_hit {l : List Int} {k : Nat} {x : Int} (hx : l[k]? = some x) (h0 : x ≠ 0) (hn : ∀ j y, j < k → l[j]? = some y → y = 0) : orF l = x := by
 unfold orF;have key : ∀ (l : List Int) (k : Nat), l[k]? = some x → (∀ j y, j < k → l[j]? = some y → y = 0) → l.find? (fun x => decide (x ≠ 0)) = some x := by
  intro l
  induction l with
  | nil => intro k h _; simp at h
  | cons y l ih =>
   intro k h hn
   cases k with
   | zero =>
    simp at h
    subst h
    simp [h0]
   | succ k =>
    have hy := hn 0 y (by omega) rfl;subst hy;simp only [List.find?_cons]
    simp
    have := ih k (by simpa using h) (fun j z hj hz => hn (j + 1) z (by omega) (by simpa using hz))
    simpa using this
 rw [key l k hx hn]
 rfl
theorem orF_miss {l : List Int} (hn : ∀ (j : Nat) y, l[j]? = some y → y = 0) : orF l = 0 := by
 unfold orF;have : l.find? (fun x => decide (x ≠ 0)) = none := by
  rw [List.find?_eq_none];intro x hx;obtain ⟨j, hj⟩ := List.getElem?_of_mem hx
  simp [hn j x hj]
 rw [this]
 rfl
theorem or_calls (A : Option Addr) (n c : Nat) (l : List Int) (w : World) (lo hi : Nat) (h : SlI w lo hi A n l) (hn : n ≤ 1048576) :
  Calls Tryz.prog 215 #[.slice A n c] w fun e w' => e = .returned (.int .i64 (orF l)) ∧ w = w' := by
 have hlen := hide h.len;replace h := hide h;go_enter Tryz.func215, Tryz.ntmps215
 go_wp2
 go_loop [8] (fun i => ∃ k : Nat, k ≤ n ∧ i = .int .i64 k ∧ Hid (∀ j y, j < k → l[j]? = some y → y = 0)) (fun i => n - (intOf i).toNat)
 case atStart => exact ⟨0, Nat.zero_le _, rfl, fun j y hj => absurd hj (by omega)⟩
 case round =>
  obtain ⟨k, hk, rfl, ha⟩ := hrel
  by_cases hlt : k < n
  ·obtain ⟨b, off, x, rfl, g1, g2, g3, hx, c0, -⟩ := SlI.get h.out hlt
   by_cases h0 : x = 0
   ·have hnext : Hid (∀ j y, j < k + 1 → l[j]? = some y → y = 0) := fun j y hj hy => by
     rcases Nat.lt_or_ge j k with h1 | h1
     ·exact ha.out j y h1 hy
     ·have hjk : j = k := by omega
      rw [hjk, hx] at hy;rw [← Option.some.inj hy, h0]
    subst h0;clear h hx ha
    go_wp2
    go_round
    case rel => exact ⟨k + 1, by omega, by go_num, hnext⟩
    case measure => simp [intOf]; omega
   ·have hv : Hid (orF l = x) := orF_hit hx h0 ha.out
    have hb : (x == 0) = false := by rw [beq_eq_false_iff_ne]; exact h0
    clear h hx ha h0
    go_wp2
    go_ret;exact ⟨ret_i (by rw [hv.out]), rfl⟩
  ·have hkn : k = n := by omega
   have hv : Hid (orF l = 0) := orF_miss fun j y hy => ha.out j y (by rw [hkn, ← hlen.out]; exact (List.getElem?_eq_some_iff.1 hy).1) hy
   subst hkn
   go_wp2
   go_ret;exact ⟨ret_i (by rw [hv.out]), rfl⟩
def cmpE (a b : Ed) : Int := orF [cmpI a.1 b.1, cmpI a.2.1 b.2.1, cmpI a.2.2 b.2.2]
theorem cmpE_less (a b : Ed) : decide (0 ≤ cmpE a b) = !(edLess a b) := by
 obtain ⟨a1, a2, a3⟩ := a;obtain ⟨b1, b2, b3⟩ := b;have key : ∀ x y : Int, (x < y ∧ cmpI x y = -1) ∨ (x = y ∧ cmpI x y = 0) ∨ (y < x ∧ cmpI x y = 1) := fun x y => by
  unfold cmpI
  rcases Int.lt_trichotomy x y with h | h | h
  ·exact .inl ⟨h, if_pos h⟩
  ·exact .inr (.inl ⟨h, by rw [if_neg (by omega), if_neg (by omega)]⟩)
  ·exact .inr (.inr ⟨h, by rw [if_neg (by omega), if_pos h]⟩)
 unfold cmpE edLess orF;dsimp only
 rcases key a1 b1 with ⟨h1, e1⟩ | ⟨h1, e1⟩ | ⟨h1, e1⟩
 ·have : a1 ≠ b1 := by omega
  rw [e1]
  simp [this, h1]
 ·rcases key a2 b2 with ⟨h2, e2⟩ | ⟨h2, e2⟩ | ⟨h2, e2⟩
  ·have : a2 ≠ b2 := by omega
   rw [e1, e2]
   simp [h1, this, h2]
  ·rcases key a3 b3 with ⟨h3, e3⟩ | ⟨h3, e3⟩ | ⟨h3, e3⟩
   ·rw [e1, e2, e3]
    simp [h1, h2, h3]
   ·rw [e1, e2, e3]
    simp [h1, h2, h3]
   ·have : b3 ≤ a3 := by omega
    rw [e1, e2, e3]
    simp [h1, h2, this]
  ·have n2 : a2 ≠ b2 := by omega
   have : b2 ≤ a2 := by omega
   rw [e1, e2]
   simp [h1, n2, this]
 ·have n1 : a1 ≠ b1 := by omega
  have : b1 ≤ a1 := by omega
  rw [e1]
  simp [n1, this]
theorem or3_calls (b : Nat) (c1 c2 c3 : Int) (t : TypeId) (w : World) (hb : w.heap[b]? = some (.cells #[.int .i64 c1, .int .i64 c2, .int .i64 c3] t (0, 0))) :
  Calls Tryz.prog 215 #[.slice (some ⟨b, 0, none⟩) 3 3] w fun e w' => e = .returned (.int .i64 (orF [c1, c2, c3])) ∧ w = w' := by
 have hlt : b < w.heap.size := (Array.getElem?_eq_some_iff.1 hb).1;refine or_calls _ 3 3 [c1, c2, c3] w 0 w.heap.size ⟨rfl, fun _ => ⟨b, 0, rfl, Nat.zero_le _, hlt, hlt, fun k x hx j u hu => ?_⟩⟩ (by omega)
 match j, hu with
 | 0, hu =>
  simp [iv] at hu
  subst hu;simp only [Nat.zero_add, Nat.mul_one, Nat.add_zero];refine ⟨(cell_of_row _ _ k _ t (0, 0) hb).trans ?_, frozen_of_row _ _ _ _ t hb⟩
  match k, hx with
  | 0, hx => cases hx; rfl
  | 1, hx => cases hx; rfl
  | 2, hx => cases hx; rfl
  | k + 3, hx => simp at hx
theorem isState_calls (s0 s1 k : Int) (v2 v3 : Value) (w : World) (h1 : 1 ≤ s0) (h2 : s0 ≤ 40) :
  Calls Tryz.prog 119 #[.agg #[.int .i64 s0, .int .i64 s1, v2, v3], .int .i64 k] w fun e w' => e = .returned (.bool (inB k 0 (s0 - 1))) ∧ Below w.heap.size w w' := by
 have hb0 : Below w.heap.size w (w.alloc (.cells #[.int .i64 s0, .int .i64 s1, v2, v3] 27)) := bR.alloc zR _;have q := hide (fun W => within_calls k 0 (s0 - 1) W);replace hb0 := hide hb0;go_enter Tryz.func119, Tryz.ntmps119;go_wp2_with (first | (go_at_call 118; (with_reducible refine (q.out _).mono ?_); rintro e w' ⟨rfl, rfl⟩));go_ret;exact ⟨rfl, hb0.out⟩
theorem compareEdges_calls (x1 x2 x3 y1 y2 y3 : Int) (w : World) :
  Calls Tryz.prog 122 #[.agg #[.int .i64 x1, .int .i64 x2, .int .i64 x3], .agg #[.int .i64 y1, .int .i64 y2, .int .i64 y3]] w fun e w' => e = .returned (.int .i64 (cmpE (x1, x2, x3) (y1, y2, y3))) ∧ Below w.heap.size w w' := by
 have hv : Hid (cmpE (x1, x2, x3) (y1, y2, y3) = orF [cmpI x1 y1, cmpI x2 y2, cmpI x3 y3]) := rfl;have hbA : Below w.heap.size w ((w.alloc (.cells #[.int .i64 x1, .int .i64 x2, .int .i64 x3] 84)).alloc (.cells #[.int .i64 y1, .int .i64 y2, .int .i64 y3] 84)) := (bR.alloc zR _).alloc (by simp only [World.size_alloc]; omega) _;have k0 := (Below.heap_alloc (w.alloc (.cells #[.int .i64 x1, .int .i64 x2, .int .i64 x3] 84)) (.cells #[.int .i64 y1, .int .i64 y2, .int .i64 y3] 84) w.heap.size (by simp only [World.size_alloc]; omega)).trans (heap_alloc_new w (.cells #[.int .i64 x1, .int .i64 x2, .int .i64 x3] 84));have k1 := heap_alloc_new (w.alloc (.cells #[.int .i64 x1, .int .i64 x2, .int .i64 x3] 84)) (.cells #[.int .i64 y1, .int .i64 y2, .int .i64 y3] 84);rw [World.size_alloc] at k1;have q := hide compare_calls;replace hbA := hide hbA;replace k0 := hide k0;replace k1 := hide k1;go_enter Tryz.func122, Tryz.ntmps122;go_wp2_with fail;generalize hW : ((w.alloc (.cells #[.int .i64 x1, .int .i64 x2, .int .i64 x3] 84)).alloc (.cells #[.int .i64 y1, .int .i64 y2, .int .i64 y3] 84)) = W at *;have a0 : W.cell? ⟨w.heap.size, 0, none⟩ = some (.int .i64 x1) := cR 0 k0.out;have a1 : W.cell? ⟨w.heap.size, 1, none⟩ = some (.int .i64 x2) := cR 1 k0.out;have a2 : W.cell? ⟨w.heap.size, 2, none⟩ = some (.int .i64 x3) := cR 2 k0.out;have b0 : W.cell? ⟨w.heap.size + 1, 0, none⟩ = some (.int .i64 y1) := cR 0 k1.out;have b1 : W.cell? ⟨w.heap.size + 1, 1, none⟩ = some (.int .i64 y2) := cR 1 k1.out;have b2 : W.cell? ⟨w.heap.size + 1, 2, none⟩ = some (.int .i64 y3) := cR 2 k1.out;clear hW
 go_region_held3 (fun w' => w'.cell? ⟨w.heap.size, 0, none⟩ = some (.int .i64 x1) ∧ w'.cell? ⟨w.heap.size, 1, none⟩ = some (.int .i64 x2) ∧ w'.cell? ⟨w.heap.size, 2, none⟩ = some (.int .i64 x3) ∧ w'.cell? ⟨w.heap.size + 1, 0, none⟩ = some (.int .i64 y1) ∧ w'.cell? ⟨w.heap.size + 1, 1, none⟩ = some (.int .i64 y2) ∧ w'.cell? ⟨w.heap.size + 1, 2, none⟩ = some (.int .i64 y3)) (first | exact ⟨a0, a1, a2, b0, b1, b2⟩ | go_keep)
  (first
   | (go_at_call 216; (with_reducible refine (q.out _ _ _).mono ?_); rintro e w' ⟨rfl, rfl⟩)
   | (go_at_call 215; (refine (or3_calls _ _ _ _ _ _ (by exact heap_alloc_new W _)).mono ?_); rintro e w' ⟨rfl, rfl⟩))
 all_goals go_wp2
 all_goals go_ret
 all_goals first | exact ⟨ret_i (by rw [hv.out]), hbA.out.drew.alloc hbA.out.size _⟩ | exact ⟨ret_i (by rw [hv.out]), (hbA.out.alloc hbA.out.size _).drew⟩
theorem okL_at2 {l : List ByteArray} {k : Nat} {x y : ByteArray} (hx : l[k]? = some x) (hk : 0 < k) (hy : l[k - 1]? = some y) : okL l k = ((labS x && !(decide (x = tauB))) && (decide (k ≤ 1) || !(Op.bytesLess x.toList y.toList || x.toList == y.toList))) := by
 rw [okL_at hx hk hy, bytesLess_total]
 rfl
theorem okL_bad {l : List ByteArray} {k : Nat} {x : ByteArray} (hx : l[k]? = some x) (h : labS x = false) : okL l k = false := by
 show okLab labS sLess l k = _
 unfold okLab;rw [hx]
 simp [h]
theorem validLts_calls (x : CL) (d : DL) (w : World) (lo hi : Nat) (h : ReadL w lo hi x d) (htot : totL d ≤ 1048576) (he : Env w) :
  Calls Tryz.prog 54 #[.agg #[.int .i64 x.1, .int .i64 x.2.1, x.2.2.1, x.2.2.2]] w fun e w' => e = .returned (.bool (ltsV d)) ∧ Below w.heap.size w w' := by
 obtain ⟨s0, s1, v2, v3⟩ := x;obtain ⟨st, ini, ls, es⟩ := d;obtain ⟨e0, e1, ⟨A2, n2, k2, e2, hn2, hs2, t2⟩, ⟨A3, n3, k3, e3, hn3, t3⟩⟩ := h;dsimp only at *;subst e0 e1 e2 e3;have l2 := t2.len;have l3 := t3.len;have hls : n2 ≤ 1048576 := by rw [← l2]; exact Nat.le_trans (totL_lab (s0, s1, ls, es)) htot
 have hes : n3 ≤ 1048576 := by rw [← l3]; exact Nat.le_trans (totL_edg (s0, s1, ls, es)) htot
 have hss : Hid (∀ s ∈ ls, s.size ≤ 1048576) := fun s hs => by
  have h1 : s.size ≤ (ls.map (·.size)).sum := mem_le_sum (List.mem_map.2 ⟨s, hs, rfl⟩);simp only [totL, totS] at htot;omega
 have hval : ltsV (s0, s1, ls, es) = ((inB s0 1 40 && inB s1 0 (s0 - 1) && inB (n2 : Int) 1 12 && decide (n3 ≤ 300)) && (allK (okL ls) n2 && allK (okEd s0 (n2 : Int) es) n3)) := by rw [← l2, ← l3]; rfl
 replace l2 := hide l2;replace l3 := hide l3;replace t2 := hide t2;replace t3 := hide t3;have hW0 := hide ((Below.refl w.heap.size w).alloc zR (.cells #[.int .i64 s0, .int .i64 s1, .slice A2 n2 k2, .slice A3 n3 k3] 27));have kE := heap_alloc_new w (.cells #[.int .i64 s0, .int .i64 s1, .slice A2 n2 k2, .slice A3 n3 k3] 27);have hbt : w.heap.size < (w.alloc (.cells #[.int .i64 s0, .int .i64 s1, .slice A2 n2 k2, .slice A3 n3 k3] 27)).heap.size := by rw [World.size_alloc]; omega
 replace he := hide he;have hbt1 : w.heap.size + 1 ≤ (w.alloc (.cells #[.int .i64 s0, .int .i64 s1, .slice A2 n2 k2, .slice A3 n3 k3] 27)).heap.size := hbt;clear htot hs2 hn2 hn3;go_enter Tryz.func54, Tryz.ntmps54;go_upto_region 1 with fail;have c0 : (w.alloc (.cells #[.int .i64 s0, .int .i64 s1, .slice A2 n2 k2, .slice A3 n3 k3] 27)).cell? ⟨w.heap.size, 0, none⟩ = some (.int .i64 s0) := cR 0 kE;have c1 : (w.alloc (.cells #[.int .i64 s0, .int .i64 s1, .slice A2 n2 k2, .slice A3 n3 k3] 27)).cell? ⟨w.heap.size, 1, none⟩ = some (.int .i64 s1) := cR 1 kE;have c2 : (w.alloc (.cells #[.int .i64 s0, .int .i64 s1, .slice A2 n2 k2, .slice A3 n3 k3] 27)).cell? ⟨w.heap.size, 2, none⟩ = some (.slice A2 n2 k2) := cR 2 kE;have c3 : (w.alloc (.cells #[.int .i64 s0, .int .i64 s1, .slice A2 n2 k2, .slice A3 n3 k3] 27)).cell? ⟨w.heap.size, 3, none⟩ = some (.slice A3 n3 k3) := cR 3 kE;clear kE;generalize hWW : (w.alloc (.cells #[.int .i64 s0, .int .i64 s1, .slice A2 n2 k2, .slice A3 n3 k3] 27)) = W0 at *;clear hWW
 cases z0 : inB s0 1 40 with
 | false =>
  rw [z0] at hval;have hv : Hid (ltsV (s0, s1, ls, es) = false) := hval;clear hval;go_wp2_with (first | (go_at_call 118; (with_reducible refine (within_calls _ _ _ _).mono ?_); rintro e w' ⟨rfl, rfl⟩));go_ret;exact ⟨ret_b (by rw [hv.out]), hW0.out⟩
 | true =>
 have hst := inB_true.1 z0;have hst1 := hst.1;have hst2 := hst.2;clear hst;rw [z0] at hval
 cases z1 : inB s1 0 (s0 - 1) with
 | false =>
  rw [z1] at hval;have hv : Hid (ltsV (s0, s1, ls, es) = false) := hval;clear hval;go_wp2_with (first | (go_at_call 118; (with_reducible refine (within_calls _ _ _ _).mono ?_); rintro e w' ⟨rfl, rfl⟩) | (go_at_call 119; (with_reducible refine (isState_calls _ _ _ _ _ _ hst1 hst2).mono ?_); rintro e w1 ⟨rfl, hb1⟩; have a2 := (hb1.cell (p := ⟨w.heap.size, 2, none⟩) hbt).trans c2; have a3 := (hb1.cell (p := ⟨w.heap.size, 3, none⟩) hbt).trans c3; replace hb1 := hide hb1));go_ret;exact ⟨ret_b (by rw [hv.out]), hW0.out.trans (hb1.out.mono (Nat.le_of_lt hbt))⟩
 | true =>
 rw [z1] at hval
 cases z2 : inB (n2 : Int) 1 12 with
 | false =>
  rw [z2] at hval;have hv : Hid (ltsV (s0, s1, ls, es) = false) := hval;clear hval;go_wp2_with (first | (go_at_call 118; (with_reducible refine (within_calls _ _ _ _).mono ?_); rintro e w' ⟨rfl, rfl⟩) | (go_at_call 119; (with_reducible refine (isState_calls _ _ _ _ _ _ hst1 hst2).mono ?_); rintro e w1 ⟨rfl, hb1⟩; have a2 := (hb1.cell (p := ⟨w.heap.size, 2, none⟩) hbt).trans c2; have a3 := (hb1.cell (p := ⟨w.heap.size, 3, none⟩) hbt).trans c3; replace hb1 := hide hb1));go_ret;exact ⟨ret_b (by rw [hv.out]), hW0.out.trans (hb1.out.mono (Nat.le_of_lt hbt))⟩
 | true =>
 rw [z2] at hval
 by_cases h300 : n3 ≤ 300
 case neg =>
  rw [decide_eq_false h300] at hval;have hv : Hid (ltsV (s0, s1, ls, es) = false) := hval;have h3I : (300 : Int) < (n3 : Int) := by omega
  clear hval;go_wp2_with (first | (go_at_call 118; (with_reducible refine (within_calls _ _ _ _).mono ?_); rintro e w' ⟨rfl, rfl⟩) | (go_at_call 119; (with_reducible refine (isState_calls _ _ _ _ _ _ hst1 hst2).mono ?_); rintro e w1 ⟨rfl, hb1⟩; have a2 := (hb1.cell (p := ⟨w.heap.size, 2, none⟩) hbt).trans c2; have a3 := (hb1.cell (p := ⟨w.heap.size, 3, none⟩) hbt).trans c3; replace hb1 := hide hb1));go_ret;exact ⟨ret_b (by rw [hv.out]), hW0.out.trans (hb1.out.mono (Nat.le_of_lt hbt))⟩
 rw [decide_eq_true h300] at hval;have hval2 : Hid (ltsV (s0, s1, ls, es) = (allK (okL ls) n2 && allK (okEd s0 (n2 : Int) es) n3)) := by show _ = _; rw [hval]; rfl
 have h3I : ¬ (300 : Int) < (n3 : Int) := by omega
 clear hval;go_wp2_with (first | (go_at_call 118; (with_reducible refine (within_calls _ _ _ _).mono ?_); rintro e w' ⟨rfl, rfl⟩) | (go_at_call 119; (with_reducible refine (isState_calls _ _ _ _ _ _ hst1 hst2).mono ?_); rintro e w1 ⟨rfl, hb1⟩; have a2 := (hb1.cell (p := ⟨w.heap.size, 2, none⟩) hbt).trans c2; have a3 := (hb1.cell (p := ⟨w.heap.size, 3, none⟩) hbt).trans c3; replace hb1 := hide hb1));have hb1' := hide (hb1.out.mono hbt1);clear hb1
 go_loopw [34] (fun i wr => ∃ k : Nat, k ≤ n2 ∧ i = .int .i64 (k : Nat) ∧ Hid (∀ j, j < k → okL ls j = true) ∧ Below (w.heap.size + 1) W0 wr) (fun i _ => n2 - (intOf i).toNat)
 case atStart => exact ⟨0, Nat.zero_le _, rfl, fun j hj => absurd hj (by omega), hb1'.out⟩
 case round =>
  obtain ⟨k, hk, rfl, ha, hb⟩ := hrel;have hwb := hW0.out.trans (hb.mono (Nat.le_succ _));have y2 := (hb.cell (p := ⟨w.heap.size, 2, none⟩) (Nat.lt_succ_self _)).trans c2;have y3 := (hb.cell (p := ⟨w.heap.size, 3, none⟩) (Nat.lt_succ_self _)).trans c3;have hgw := Nat.lt_of_lt_of_le hbt hb.size;clear a2 a3
  by_cases hlt : k < n2
  ·obtain ⟨b, off, s, rfl, g1, g2, g3, hx, p0, -⟩ := SlS.get t2.out hlt
   replace p0 := (hwb.cell (p := ⟨b, off + k, none⟩) g3).trans p0;have hg := Nat.lt_of_lt_of_le g3 hwb.size;have q := isLabel_calls s wr (hss.out s (List.mem_of_getElem? hx)) (he.out.below hwb zR)
   cases hlab : labS s with
   | false =>
    have hv : Hid (ltsV (s0, s1, ls, es) = false) := by show _ = _; rw [hval2.out, allK_bad hlt (okL_bad hx hlab)]; rfl
    rw [hlab] at q;replace q := hide q;clear hx ha hlab t2 t3 hss;go_wp2_with (first | (go_at_call 120; (with_reducible refine q.out.mono ?_); rintro e w2 ⟨rfl, hb2⟩; have m2 := (hb2.cell (p := ⟨w.heap.size, 2, none⟩) hgw).trans y2; have m3 := (hb2.cell (p := ⟨w.heap.size, 3, none⟩) hgw).trans y3; replace hb2 := hide hb2));go_ret;exact ⟨ret_b (by rw [hv.out]), hwb.trans (hb2.out.mono hwb.size)⟩
   | true =>
   rw [hlab] at q;replace q := hide q
   by_cases hk0 : 0 < k
   ·obtain ⟨b', off', r, eA, -, -, -, hy, p1, -⟩ := SlS.get t2.out (show k - 1 < n2 by omega)
    cases eA
    replace p1 := (hwb.cell (p := ⟨b, off + (k - 1), none⟩) g3).trans p1;have hok := okL_at2 hx hk0 hy;rw [hlab] at hok;have hkb : ((k : Int) == 0) = false := by rw [beq_eq_false_iff_ne]; omega
    clear hx hy hlab
    by_cases htx : s = tauB
    ·have hv : Hid (ltsV (s0, s1, ls, es) = false) := by show _ = _; rw [hval2.out, allK_bad hlt (by rw [hok, decide_eq_true htx]; rfl)]; rfl
     have htt : (s.toList == [116, 97, 117]) = true := by rw [htx, tau_list]; rfl
     clear ha hok htx t2 t3 hss;go_wp2_with (first | (go_at_call 120; (with_reducible refine q.out.mono ?_); rintro e w2 ⟨rfl, hb2⟩; have m2 := (hb2.cell (p := ⟨w.heap.size, 2, none⟩) hgw).trans y2; have m3 := (hb2.cell (p := ⟨w.heap.size, 3, none⟩) hgw).trans y3; have m4 := (hb2.cell (p := ⟨b, off + (k - 1), none⟩) hg).trans p1; replace hb2 := hide hb2));go_ret;exact ⟨ret_b (by rw [hv.out]), hwb.trans (hb2.out.mono hwb.size)⟩
    have hne := tau_ne htx;rw [decide_eq_false htx] at hok
    by_cases h1 : k = 1
    ·have hnext : Hid (∀ j, j < k + 1 → okL ls j = true) := lt_succ_cases ha.out (by rw [hok, h1]; rfl)
     have h1I : ¬ (1 : Int) < (k : Int) := by omega
     replace h1 := hide h1;clear ha hok htx;go_wp2_with (first | (go_at_call 120; (with_reducible refine q.out.mono ?_); rintro e w2 ⟨rfl, hb2⟩; have m2 := (hb2.cell (p := ⟨w.heap.size, 2, none⟩) hgw).trans y2; have m3 := (hb2.cell (p := ⟨w.heap.size, 3, none⟩) hgw).trans y3; have m4 := (hb2.cell (p := ⟨b, off + (k - 1), none⟩) hg).trans p1; replace hb2 := hide hb2));go_roundw
     case rel => exact ⟨k + 1, by omega, by go_num, hnext, hb.trans (hb2.out.mono hgw)⟩
     case measure => simp [intOf]; omega
    ·have h1I : (1 : Int) < (k : Int) := by omega
     cases hsl : (Op.bytesLess s.toList r.toList || s.toList == r.toList) with
     | false =>
      have hnext : Hid (∀ j, j < k + 1 → okL ls j = true) := lt_succ_cases ha.out (by rw [hok, hsl]; simp);have hs1 : Op.bytesLess s.toList r.toList = false := (Bool.or_eq_false_iff.1 hsl).1;have hs2 : (s.toList == r.toList) = false := (Bool.or_eq_false_iff.1 hsl).2;clear ha hok htx hsl h1;go_wp2_with (first | (go_at_call 120; (with_reducible refine q.out.mono ?_); rintro e w2 ⟨rfl, hb2⟩; have m2 := (hb2.cell (p := ⟨w.heap.size, 2, none⟩) hgw).trans y2; have m3 := (hb2.cell (p := ⟨w.heap.size, 3, none⟩) hgw).trans y3; have m4 := (hb2.cell (p := ⟨b, off + (k - 1), none⟩) hg).trans p1; replace hb2 := hide hb2));go_roundw
      case rel => exact ⟨k + 1, by omega, by go_num, hnext, hb.trans (hb2.out.mono hgw)⟩
      case measure => simp [intOf]; omega
     | true =>
      have hv : Hid (ltsV (s0, s1, ls, es) = false) := by show _ = _; rw [hval2.out, allK_bad hlt (by rw [hok, hsl, decide_eq_false (show ¬ k ≤ 1 by omega)]; rfl)]; rfl
      clear ha hok htx h1 t2 t3 hss
      cases hs1 : Op.bytesLess s.toList r.toList with
      | true =>
       clear hsl;go_wp2_with (first | (go_at_call 120; (with_reducible refine q.out.mono ?_); rintro e w2 ⟨rfl, hb2⟩; have m2 := (hb2.cell (p := ⟨w.heap.size, 2, none⟩) hgw).trans y2; have m3 := (hb2.cell (p := ⟨w.heap.size, 3, none⟩) hgw).trans y3; have m4 := (hb2.cell (p := ⟨b, off + (k - 1), none⟩) hg).trans p1; replace hb2 := hide hb2));go_ret;exact ⟨ret_b (by rw [hv.out]), hwb.trans (hb2.out.mono hwb.size)⟩
      | false =>
       have hs2 : (s.toList == r.toList) = true := by rw [hs1] at hsl; exact hsl
       clear hsl;go_wp2_with (first | (go_at_call 120; (with_reducible refine q.out.mono ?_); rintro e w2 ⟨rfl, hb2⟩; have m2 := (hb2.cell (p := ⟨w.heap.size, 2, none⟩) hgw).trans y2; have m3 := (hb2.cell (p := ⟨w.heap.size, 3, none⟩) hgw).trans y3; have m4 := (hb2.cell (p := ⟨b, off + (k - 1), none⟩) hg).trans p1; replace hb2 := hide hb2));go_ret;exact ⟨ret_b (by rw [hv.out]), hwb.trans (hb2.out.mono hwb.size)⟩
   ·have hk00 : k = 0 := by omega
    subst hk00;have hok := okL_zero hx;simp only [Nat.add_zero] at p0;clear hx hlab
    by_cases htx : s = tauB
    ·have hnext : Hid (∀ j, j < 0 + 1 → okL ls j = true) := lt_succ_cases ha.out (by rw [hok, decide_eq_true htx])
     have htt : (s.toList == [116, 97, 117]) = true := by rw [htx, tau_list]; rfl
     clear ha hok htx;go_wp2_with (first | (go_at_call 120; (with_reducible refine q.out.mono ?_); rintro e w2 ⟨rfl, hb2⟩; have m2 := (hb2.cell (p := ⟨w.heap.size, 2, none⟩) hgw).trans y2; have m3 := (hb2.cell (p := ⟨w.heap.size, 3, none⟩) hgw).trans y3; replace hb2 := hide hb2));go_roundw
     case rel => exact ⟨0 + 1, by omega, by go_num, hnext, hb.trans (hb2.out.mono hgw)⟩
     case measure => simp [intOf]; omega
    ·have hv : Hid (ltsV (s0, s1, ls, es) = false) := by show _ = _; rw [hval2.out, allK_bad hlt (by rw [hok, decide_eq_false htx])]; rfl
     have hne := tau_ne htx;clear ha hok htx t2 t3 hss;go_wp2_with (first | (go_at_call 120; (with_reducible refine q.out.mono ?_); rintro e w2 ⟨rfl, hb2⟩; have m2 := (hb2.cell (p := ⟨w.heap.size, 2, none⟩) hgw).trans y2; have m3 := (hb2.cell (p := ⟨w.heap.size, 3, none⟩) hgw).trans y3; replace hb2 := hide hb2));go_ret;exact ⟨ret_b (by rw [hv.out]), hwb.trans (hb2.out.mono hwb.size)⟩
  ·have hkn : n2 = k := by omega
   have hall : allK (okL ls) n2 = true := allK_good (by rw [hkn]; exact ha.out);have hval3 : Hid (ltsV (s0, s1, ls, es) = allK (okEd s0 (n2 : Int) es) n3) := by show _ = _; rw [hval2.out, hall]; rfl
   subst hkn;clear hval2 hall ha t2 hss;go_wp2_with fail
   go_loopw [67] (fun i wr2 => ∃ k2 : Nat, k2 ≤ n3 ∧ i = .int .i64 (k2 : Nat) ∧ Hid (∀ j, j < k2 → okEd s0 (n2 : Int) es j = true) ∧ Below (w.heap.size + 1) W0 wr2) (fun i _ => n3 - (intOf i).toNat)
   case atStart => exact ⟨0, Nat.zero_le _, rfl, fun j hj => absurd hj (by omega), hb⟩
   case round =>
    clear hb hwb y2 y3 hgw;obtain ⟨k, hk, rfl, ha, hb⟩ := hrel;have hwb := hW0.out.trans (hb.mono (Nat.le_succ _));have y0 := (hb.cell (p := ⟨w.heap.size, 0, none⟩) (Nat.lt_succ_self _)).trans c0;have y1 := (hb.cell (p := ⟨w.heap.size, 1, none⟩) (Nat.lt_succ_self _)).trans c1;have y2 := (hb.cell (p := ⟨w.heap.size, 2, none⟩) (Nat.lt_succ_self _)).trans c2;have y3 := (hb.cell (p := ⟨w.heap.size, 3, none⟩) (Nat.lt_succ_self _)).trans c3;have hgt := Nat.lt_of_lt_of_le hbt hb.size
    by_cases hlt : k < n3
    ·obtain ⟨b, off, f, lb, tg, rfl, g1, g2, g3, hx, p0, p1, p2, -, -, -⟩ := SlE.get t3.out hlt
     replace p0 := (hwb.cell g3).trans p0;replace p1 := (hwb.cell (p := ⟨b, off + k * 3 + 1, none⟩) g3).trans p1;replace p2 := (hwb.cell (p := ⟨b, off + k * 3 + 2, none⟩) g3).trans p2;have hg := Nat.lt_of_lt_of_le g3 hwb.size;have hbox : Below wr.heap.size wr (wr.alloc (.cells #[.int .i64 f, .int .i64 lb, .int .i64 tg] 84)) := bR.alloc zR _;have kE := heap_alloc_new wr (.cells #[.int .i64 f, .int .i64 lb, .int .i64 tg] 84);have x0 := (hbox.cell (p := ⟨w.heap.size, 0, none⟩) hgt).trans y0;have x1 := (hbox.cell (p := ⟨w.heap.size, 1, none⟩) hgt).trans y1;have x2 := (hbox.cell (p := ⟨w.heap.size, 2, none⟩) hgt).trans y2;have x3 := (hbox.cell (p := ⟨w.heap.size, 3, none⟩) hgt).trans y3;have z0' : (wr.alloc (.cells #[.int .i64 f, .int .i64 lb, .int .i64 tg] 84)).cell? ⟨wr.heap.size, 0, none⟩ = some (.int .i64 f) := cR 0 kE;have z1' : (wr.alloc (.cells #[.int .i64 f, .int .i64 lb, .int .i64 tg] 84)).cell? ⟨wr.heap.size, 1, none⟩ = some (.int .i64 lb) := cR 1 kE;have z2' : (wr.alloc (.cells #[.int .i64 f, .int .i64 lb, .int .i64 tg] 84)).cell? ⟨wr.heap.size, 2, none⟩ = some (.int .i64 tg) := cR 2 kE;have hprev : 0 < k → ∃ r1 r2 r3, es[k - 1]? = some (r1, r2, r3) ∧ (wr.alloc (.cells #[.int .i64 f, .int .i64 lb, .int .i64 tg] 84)).cell? ⟨b, off + (k - 1) * 3, none⟩ = some (.int .i64 r1) ∧ (wr.alloc (.cells #[.int .i64 f, .int .i64 lb, .int .i64 tg] 84)).cell? ⟨b, off + (k - 1) * 3 + 1, none⟩ = some (.int .i64 r2) ∧ (wr.alloc (.cells #[.int .i64 f, .int .i64 lb, .int .i64 tg] 84)).cell? ⟨b, off + (k - 1) * 3 + 2, none⟩ = some (.int .i64 r3) := fun hk0 => by
      obtain ⟨b', off', r1, r2, r3, eA, -, -, -, hy, u0, u1, u2, -, -, -⟩ := SlE.get t3.out (show k - 1 < n3 by omega)
      cases eA
      exact ⟨r1, r2, r3, hy, (hbox.cell hg).trans ((hwb.cell g3).trans u0), (hbox.cell (p := ⟨b, off + (k - 1) * 3 + 1, none⟩) hg).trans ((hwb.cell (p := ⟨b, off + (k - 1) * 3 + 1, none⟩) g3).trans u1), (hbox.cell (p := ⟨b, off + (k - 1) * 3 + 2, none⟩) hg).trans ((hwb.cell (p := ⟨b, off + (k - 1) * 3 + 2, none⟩) g3).trans u2)⟩
     replace hprev := hide hprev;have hbw := hide (hwb.trans (hbox.mono hwb.size));have hbB := hide (hb.trans (hbox.mono hgt));have hbBs : Hid (w.heap.size + 1 ≤ (wr.alloc (.cells #[.int .i64 f, .int .i64 lb, .int .i64 tg] 84)).heap.size) := by show _ ≤ _; rw [World.size_alloc]; omega
     have hI0 : (0 : Int) ≤ (k : Int) := by omega
     have hI1 : (k : Int) < (n3 : Int) := by omega
     clear t3 hg g1 g2 g3 y0 y1 y2 hwb hb hbox kE hgt;go_wp2_with fail;clear p0 p1 p2 y3;generalize hWE : (wr.alloc (.cells #[.int .i64 f, .int .i64 lb, .int .i64 tg] 84)) = WE at *;generalize hbE : wr.heap.size = bE at *;clear hWE hbE;have r0 : ∀ d os, Calls Tryz.prog 119 #[.agg #[.int .i64 s0, .int .i64 s1, .slice A2 n2 k2, .slice (some ⟨b, off, none⟩) n3 k3], .int .i64 f] (grow (redrawn WE d) os) (fun e w'' => e = .returned (.bool (inB f 0 (s0 - 1))) ∧ ∃ p : Regrown, w'' = grow (redrawn WE p.d) p.os) := fun d os => Calls.regrown_of (isState_calls s0 s1 f _ _ _ hst1 hst2)
     have r1 : ∀ d os, Calls Tryz.prog 119 #[.agg #[.int .i64 s0, .int .i64 s1, .slice A2 n2 k2, .slice (some ⟨b, off, none⟩) n3 k3], .int .i64 tg] (grow (redrawn WE d) os) (fun e w'' => e = .returned (.bool (inB tg 0 (s0 - 1))) ∧ ∃ p : Regrown, w'' = grow (redrawn WE p.d) p.os) := fun d os => Calls.regrown_of (isState_calls s0 s1 tg _ _ _ hst1 hst2)
     have r2 := same_regrown (w := WE) (fun W => index_calls lb n2 hls W);have f0 := fun d os => cell_regrown x0 d os
     have f1 := fun d os => cell_regrown x1 d os
     have f2 := fun d os => cell_regrown x2 d os
     have f3 := fun d os => cell_regrown x3 d os
     have u0 := fun d os => cell_regrown z0' d os
     have u1 := fun d os => cell_regrown z1' d os
     have u2 := fun d os => cell_regrown z2' d os
     cases w0 : inB f 0 (s0 - 1) with
     | false =>
      have hv : Hid (ltsV (s0, s1, ls, es) = false) := by show _ = _; rw [hval3.out]; exact allK_bad hlt (okE_bad hx (by rw [w0]; rfl))
      simp only [w0] at r0;replace r0 := hide r0;clear r1 r2 w0 hx hprev ha;refine wp_region_quiet_below (by kernel_rfl) (by kernel_rfl) ?_
      repeat (go_big_quiet_step (first | (with_reducible exact r0.out _ _)))
      refine wpQuiet_nil ?_;intro _ hw';obtain ⟨⟨dq, osq⟩, hw''⟩ := hw';subst hw'';have hbq := below_regrown WE dq osq;generalize grow (redrawn WE dq) osq = wq at *
      go_wp2
      go_ret;exact ⟨ret_b (by rw [hv.out]), hbw.out.trans (hbq.mono hbw.out.size)⟩
     | true =>
     simp only [w0] at r0;replace r0 := hide r0
     cases w1 : inB tg 0 (s0 - 1) with
     | false =>
      have hv : Hid (ltsV (s0, s1, ls, es) = false) := by show _ = _; rw [hval3.out]; exact allK_bad hlt (okE_bad hx (by rw [w0, w1]; rfl))
      simp only [w1] at r1;replace r1 := hide r1;clear r2 w0 w1 hx hprev ha;refine wp_region_quiet_below (by kernel_rfl) (by kernel_rfl) ?_
      repeat (go_big_quiet_step (first | (with_reducible exact r0.out _ _) | (with_reducible exact r1.out _ _)))
      refine wpQuiet_nil ?_;intro _ hw';obtain ⟨⟨dq, osq⟩, hw''⟩ := hw';subst hw'';have hbq := below_regrown WE dq osq;generalize grow (redrawn WE dq) osq = wq at *
      go_wp2
      go_ret;exact ⟨ret_b (by rw [hv.out]), hbw.out.trans (hbq.mono hbw.out.size)⟩
     | true =>
     simp only [w1] at r1;replace r1 := hide r1
     cases w2 : inB lb 0 ((n2 : Int) - 1) with
     | false =>
      have hv : Hid (ltsV (s0, s1, ls, es) = false) := by show _ = _; rw [hval3.out]; exact allK_bad hlt (okE_bad hx (by rw [w0, w1, w2]; rfl))
      simp only [w2] at r2;replace r2 := hide r2;clear w0 w1 w2 hx hprev ha;refine wp_region_quiet_below (by kernel_rfl) (by kernel_rfl) ?_
      repeat (go_big_quiet_step (first | (with_reducible exact r0.out _ _) | (with_reducible exact r1.out _ _) | (with_reducible exact r2.out _ _)))
      refine wpQuiet_nil ?_;intro _ hw';obtain ⟨⟨dq, osq⟩, hw''⟩ := hw';subst hw'';have hbq := below_regrown WE dq osq;generalize grow (redrawn WE dq) osq = wq at *
      go_wp2
      go_ret;exact ⟨ret_b (by rw [hv.out]), hbw.out.trans (hbq.mono hbw.out.size)⟩
     | true =>
     simp only [w2] at r2;replace r2 := hide r2
     by_cases hk0 : 0 < k
     ·obtain ⟨q1, q2, q3, hy, v0, v1, v2⟩ := hprev.out hk0
      have hok := okE_at (st := s0) (m := (n2 : Int)) hx hk0 hy;rw [w0, w1, w2] at hok;have hlI : (0 : Int) < (k : Int) := by omega
      have hlJ : decide ((0 : Int) < (k : Int)) = true := decide_eq_true hlI;have hI4 : (1 : Int) ≤ (k : Int) := by omega
      have hI3 : (k : Int) - 1 < (n3 : Int) := by omega
      have hI5 : ((k : Int) - 1).toNat = k - 1 := by omega
      have g0 := fun d os => cell_regrown v0 d os
      have g1 := fun d os => cell_regrown v1 d os
      have g2 := fun d os => cell_regrown v2 d os
      have r3 : ∀ d os, Calls Tryz.prog 122 #[.agg #[.int .i64 q1, .int .i64 q2, .int .i64 q3], .agg #[.int .i64 f, .int .i64 lb, .int .i64 tg]] (grow (redrawn WE d) os) (fun e w'' => e = .returned (.int .i64 (cmpE (q1, q2, q3) (f, lb, tg))) ∧ ∃ p : Regrown, w'' = grow (redrawn WE p.d) p.os) := fun d os => Calls.regrown_of (compareEdges_calls q1 q2 q3 f lb tg _)
      have hce := cmpE_less (q1, q2, q3) (f, lb, tg);generalize cmpE (q1, q2, q3) (f, lb, tg) = ce at *;replace r3 := hide r3
      cases hls' : edLess (q1, q2, q3) (f, lb, tg) with
      | true =>
       rw [hls'] at hce;replace hce : decide (0 ≤ ce) = false := hce;have hce2 : ¬ (0 : Int) ≤ ce := of_decide_eq_false hce;have hnext : Hid (∀ j, j < k + 1 → okEd s0 (n2 : Int) es j = true) := lt_succ_cases ha.out (by rw [hok, hls']; rfl);clear w0 w1 w2 hx hprev ha hok hy hls';refine wp_region_quiet_below (by kernel_rfl) (by kernel_rfl) ?_
       repeat (go_big_quiet_step (first | (with_reducible exact r0.out _ _) | (with_reducible exact r1.out _ _) | (with_reducible exact r2.out _ _) | (with_reducible exact r3.out _ _)))
       refine wpQuiet_nil ?_;intro _ hw';obtain ⟨⟨dq, osq⟩, hw''⟩ := hw';subst hw'';have hbq := below_regrown WE dq osq;generalize grow (redrawn WE dq) osq = wq at *
       go_wp2
       go_roundw
       case rel => exact ⟨k + 1, by omega, by go_num, hnext, hbB.out.trans (hbq.mono hbBs.out)⟩
       case measure => simp [intOf]; omega
      | false =>
       rw [hls'] at hce;replace hce : decide (0 ≤ ce) = true := hce;have hce2 : (0 : Int) ≤ ce := of_decide_eq_true hce;have hv : Hid (ltsV (s0, s1, ls, es) = false) := by show _ = _; rw [hval3.out]; exact allK_bad hlt (by rw [hok, hls']; rfl)
       clear w0 w1 w2 hx hprev ha hok hy hls';refine wp_region_quiet_below (by kernel_rfl) (by kernel_rfl) ?_
       repeat (go_big_quiet_step (first | (with_reducible exact r0.out _ _) | (with_reducible exact r1.out _ _) | (with_reducible exact r2.out _ _) | (with_reducible exact r3.out _ _)))
       refine wpQuiet_nil ?_;intro _ hw';obtain ⟨⟨dq, osq⟩, hw''⟩ := hw';subst hw'';have hbq := below_regrown WE dq osq;generalize grow (redrawn WE dq) osq = wq at *
       go_wp2
       go_ret;exact ⟨ret_b (by rw [hv.out]), hbw.out.trans (hbq.mono hbw.out.size)⟩
     ·have hk00 : k = 0 := by omega
      subst hk00;have hok := okE_zero (st := s0) (m := (n2 : Int)) hx;rw [w0, w1, w2] at hok;have hnext : Hid (∀ j, j < 0 + 1 → okEd s0 (n2 : Int) es j = true) := lt_succ_cases ha.out (by rw [hok]; rfl);clear w0 w1 w2 hx hprev ha hok;refine wp_region_quiet_below (by kernel_rfl) (by kernel_rfl) ?_
      repeat (go_big_quiet_step (first | (with_reducible exact r0.out _ _) | (with_reducible exact r1.out _ _) | (with_reducible exact r2.out _ _)))
      refine wpQuiet_nil ?_;intro _ hw';obtain ⟨⟨dq, osq⟩, hw''⟩ := hw';subst hw'';have hbq := below_regrown WE dq osq;generalize grow (redrawn WE dq) osq = wq at *
      go_wp2
      go_roundw
      case rel => exact ⟨0 + 1, by omega, by go_num, hnext, hbB.out.trans (hbq.mono hbBs.out)⟩
      case measure => simp [intOf]; omega
    ·have hkn : k = n3 := by omega
     subst hkn;have hv : Hid (ltsV (s0, s1, ls, es) = true) := by show _ = _; rw [hval3.out]; exact allK_good ha.out
     go_wp2_with fail;go_ret
     exact ⟨ret_b (by rw [hv.out]), hwb⟩
end Go.Proofs.YtnhomkmfbngmgaaGreatDoor
