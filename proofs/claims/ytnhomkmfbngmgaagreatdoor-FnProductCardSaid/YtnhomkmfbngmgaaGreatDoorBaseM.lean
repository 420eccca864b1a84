/-
  Lemmas that the law of this claim leans on. Conditions: sizes.
-/
import Derived.Test.YtnhomkmfbngmgaaGreatDoorBaseB
import Derived.Test.YtnhomkmfbngmgaaGreatDoorBaseC
import Derived.Test.YtnhomkmfbngmgaaGreatDoorBaseD
import Derived.Test.YtnhomkmfbngmgaaGreatDoorBaseF
import Derived.Test.YtnhomkmfbngmgaaGreatDoorBaseG
import Derived.Test.YtnhomkmfbngmgaaGreatDoorBaseH
import Derived.Test.YtnhomkmfbngmgaaGreatDoorBaseI
import Derived.Test.YtnhomkmfbngmgaaGreatDoorBaseJ
import Derived.Test.YtnhomkmfbngmgaaGreatDoorBaseK
import Derived.Test.YtnhomkmfbngmgaaGreatDoorBaseL
set_option maxHeartbeats 6400000
set_option maxRecDepth 100000
set_option linter.unusedSimpArgs false
set_option linter.unusedVariables false
namespace Go.Proofs.YtnhomkmfbngmgaaGreatDoor
theorem str_list_ne {a b : ByteArray} (h : ¬ a = b) : (b.toList == a.toList) = false ∧ ¬ b.toList = a.toList := by
 have h1 := str_neq (a := b) (b := a) (fun e => h e.symm);exact ⟨h1, fun e => by rw [e] at h1; simp at h1⟩
open Go.ChangeAt Go.ChangeShapes Go.RowKit Go.Sort Go.WideShapes
theorem indexS_calls (v : ByteArray) (A : Option Addr) (n c : Nat) (l : List ByteArray) (w : World) (lo hi : Nat) (h : SlS w lo hi A n l) (hn : n ≤ 1048576) :
  Calls Tryz.prog 185 #[.slice A n c, .string v] w fun e w' => ∃ i : Int, e = .returned (.int .i64 i) ∧ decide (0 ≤ i) = l.any (fun x => decide (x = v)) ∧ w = w' := by
 have hlen := hide h.len;go_enter Tryz.func185, Tryz.ntmps185
 go_wp2
 go_loop [8] (fun i => ∃ k : Nat, k ≤ n ∧ i = .int .i64 k ∧ Hid ((l.take k).any (fun x => decide (x = v)) = false)) (fun i => n - (intOf i).toNat)
 case atStart => exact ⟨0, Nat.zero_le _, rfl, rfl⟩
 case round =>
  obtain ⟨k, hk, rfl, ha⟩ := hrel
  by_cases hlt : k < n
  ·obtain ⟨b, off, x, rfl, g1, g2, g3, hx, c0, -⟩ := SlS.get h hlt
   clear h
   by_cases hq : x = v
   ·have hy := hide (any_hit (G := fun x => decide (x = v)) hx (decide_eq_true hq))
    subst hq;have hself : (x.toList == x.toList) = true := beq_self_eq_true _;clear hx
    go_wp2
    go_ret;exact ⟨_, rfl, by rw [hy.out]; simp, rfl⟩
   ·have hy := hide (any_take_succ ha.out hx (decide_eq_false hq))
    obtain ⟨hne, hne2⟩ := str_list_ne hq;clear hx hq
    go_wp2
    go_round
    case rel => exact ⟨k + 1, by omega, by go_num, hy⟩
    case measure => simp [intOf]; omega
  ·have hkn : k = n := by omega
   subst hkn;clear h
   go_wp2
   go_ret;have hy := ha.out
   rw [List.take_of_length_le (by rw [hlen.out]; exact zR)] at hy;exact ⟨_, rfl, by rw [hy]; decide, rfl⟩
theorem containsS_calls (v : ByteArray) (A : Option Addr) (n c : Nat) (l : List ByteArray) (w : World) (lo hi : Nat) (h : SlS w lo hi A n l) (hn : n ≤ 1048576) :
  Calls Tryz.prog 99 #[.slice A n c, .string v] w fun e w' => e = .returned (.bool (l.any (fun x => decide (x = v)))) ∧ w = w' := by
 have q := hide (indexS_calls v A n c l w lo hi h hn);clear h;go_enter Tryz.func99, Tryz.ntmps99;go_wp2_with fail;refine q.out.mono ?_;rintro e w1 ⟨i, rfl, hi, rfl⟩;replace hi := hide hi;go_wp2_with fail;go_ret;exact ⟨ret_b hi.out.symm, rfl⟩
end Go.Proofs.YtnhomkmfbngmgaaGreatDoor
namespace Go.Proofs.YtnhomkmfbngmgaaGreatDoor
open Go.ChangeShapes Go.WideShapes Go.ChangeAt Go.RowKit
def anyN (ns : List ByteArray) (s : ByteArray) : Bool := ns.any (fun x => decide (x = namS s))
def hidN (ns : List ByteArray) (s : ByteArray) : ByteArray := if anyN ns s then tauB else s
theorem tau_nam : namS tauB = tauB := by decide +kernel
theorem hidN_or (ns : List ByteArray) (s : ByteArray) : hidN ns s = s ∨ hidN ns s = tauB := by
 unfold hidN
 split
 ·exact .inr rfl
 ·exact .inl rfl
structure NamesD (sh hd : List ByteArray) : Prop where
 apart : ∀ x, x ∈ sh → x ∉ hd
 tau : tauB ∉ sh
theorem NamesD.hs {sh hd : List ByteArray} (h : NamesD sh hd) (s : ByteArray) : anyN sh (hidN hd s) = anyN sh s := by
 unfold hidN
 split
 ·rename_i hc
  have h1 : anyN sh tauB = false := by
   unfold anyN;rw [tau_nam, List.any_eq_false];intro x hx e;exact h.tau (of_decide_eq_true e ▸ hx)
  have h2 : anyN sh s = false := by
   unfold anyN at hc ⊢;rw [List.any_eq_true] at hc;obtain ⟨x, hx, e⟩ := hc;rw [List.any_eq_false];intro y hy e2;refine h.apart y hy ?_;rw [of_decide_eq_true e2, ← of_decide_eq_true e];exact hx
  rw [h1, h2]
 ·rfl
theorem NamesD.hi {sh hd : List ByteArray} (h : NamesD sh hd) (s : ByteArray) (hs : anyN sh s = true) : hidN hd s = s := by
 unfold hidN
 split
 ·rename_i hc
  unfold anyN at hc hs;rw [List.any_eq_true] at hc hs;obtain ⟨x, hx, e⟩ := hc;obtain ⟨y, hy, e2⟩ := hs;refine absurd ?_ (h.apart y hy);rw [of_decide_eq_true e2, ← of_decide_eq_true e];exact hx
 ·rfl
theorem shared1_calls (ns : List ByteArray) (lab : ByteArray) (bs : Nat) (A : Option Addr) (n c : Nat) (w : World) (lo hi : Nat) (hb : w.cell? ⟨bs, 0, none⟩ = some (.slice A n c)) (hbs : bs < w.heap.size) (t : SlS w lo hi A n ns) (hn : n ≤ 1048576) (hs : lab.size ≤ 1048576) (he : Env w) (hv : labS lab = true) :
  Calls Tryz.prog 98 (#[.string lab] ++ #[.pointer (some ⟨bs, 0, none⟩)]) w fun e w' => e = .returned (.bool (anyN ns lab)) ∧ Below w.heap.size w w' := by
 have q := hide (labelName_calls lab w.drew hs (he.below (Below.refl w.heap.size w).drew zR) hv);have tH := hide (fun (wx : World) (hx : Below w.heap.size w wx) => t.below hx (.inr zR));have cH := hide (fun (wx : World) (hx : Below w.heap.size w wx) => (hx.cell (p := ⟨bs, 0, none⟩) hbs).trans hb);clear t he;go_enter Tryz.func98, Tryz.ntmps98;go_upto_region 1 with fail
 go_region_law (first
  | (go_simp; go_at_call 100; (with_reducible refine q.out.mono ?_); rintro e w5 ⟨rfl, hb5⟩; have d5 := cH.out w5 ((Below.refl w.heap.size w).drew.trans hb5); have q2 := hide (containsS_calls (namS lab) A n c ns w5 lo hi (tH.out w5 ((Below.refl w.heap.size w).drew.trans hb5)) hn))
  | (go_simp; go_at_call 99; (with_reducible refine q2.out.mono ?_); rintro e w6 ⟨rfl, rfl⟩))
 all_goals (go_wp2_with fail; go_ret)
 all_goals exact ⟨rfl, (Below.refl w.heap.size w).drew.trans hb5⟩
theorem hide1_calls (ns : List ByteArray) (lab : ByteArray) (bs : Nat) (A : Option Addr) (n c : Nat) (w : World) (lo hi : Nat) (hb : w.cell? ⟨bs, 0, none⟩ = some (.slice A n c)) (hbs : bs < w.heap.size) (t : SlS w lo hi A n ns) (hn : n ≤ 1048576) (hs : lab.size ≤ 1048576) (he : Env w) (hv : labS lab = true) :
  Calls Tryz.prog 188 (#[.string lab] ++ #[.pointer (some ⟨bs, 0, none⟩)]) w fun e w' => e = .returned (.string (hidN ns lab)) ∧ Below w.heap.size w w' := by
 have q := hide (labelName_calls lab w.drew hs (he.below (Below.refl w.heap.size w).drew zR) hv);have tH := hide (fun (wx : World) (hx : Below w.heap.size w wx) => t.below hx (.inr zR));have cH := hide (fun (wx : World) (hx : Below w.heap.size w wx) => (hx.cell (p := ⟨bs, 0, none⟩) hbs).trans hb);have hval : Hid (hidN ns lab = if (ns.any fun x => decide (x = namS lab)) = true then tauB else lab) := rfl;clear t he;generalize hidN ns lab = V at *;go_enter Tryz.func188, Tryz.ntmps188;go_upto_region 1 with fail
 cases hc : (ns.any fun x => decide (x = namS lab)) with
 | true =>
  rw [hc] at hval
  go_region_law (first
   | (go_simp; go_at_call 100; (with_reducible refine q.out.mono ?_); rintro e w5 ⟨rfl, hb5⟩; have d5 := cH.out w5 ((Below.refl w.heap.size w).drew.trans hb5); have q2 := hide (containsS_calls (namS lab) A n c ns w5 lo hi (tH.out w5 ((Below.refl w.heap.size w).drew.trans hb5)) hn); rw [hc] at q2)
   | (go_simp; go_at_call 99; (with_reducible refine q2.out.mono ?_); rintro e w6 ⟨rfl, rfl⟩))
  all_goals (go_wp2_with fail; go_ret)
  all_goals exact ⟨by rw [hval.out]; rfl, (Below.refl w.heap.size w).drew.trans hb5⟩
 | false =>
  rw [hc] at hval
  go_region_law (first
   | (go_simp; go_at_call 100; (with_reducible refine q.out.mono ?_); rintro e w5 ⟨rfl, hb5⟩; have d5 := cH.out w5 ((Below.refl w.heap.size w).drew.trans hb5); have q2 := hide (containsS_calls (namS lab) A n c ns w5 lo hi (tH.out w5 ((Below.refl w.heap.size w).drew.trans hb5)) hn); rw [hc] at q2)
   | (go_simp; go_at_call 99; (with_reducible refine q2.out.mono ?_); rintro e w6 ⟨rfl, rfl⟩))
  all_goals (go_wp2_with fail; go_ret)
  all_goals exact ⟨by rw [hval.out]; rfl, (Below.refl w.heap.size w).drew.trans hb5⟩
open Go.Sort
theorem GrowH.rowsI {w : World} {base n c : Nat} {A : Option Addr} {R : List (Hd × List Int)} (h : GrowH w base A n c R) (hl : ∀ r, r ∈ R → r.1.2.1 ≤ 1048576) : RowsI 1048576 w base w.heap.size A n R :=
 ⟨h.own.sl flat_sv, fun r hr => ⟨h.rows r hr, hl r hr⟩⟩
end Go.Proofs.YtnhomkmfbngmgaaGreatDoor
namespace Go.Proofs.YtnhomkmfbngmgaaGreatDoor
open Go.ChangeShapes Go.WideShapes Go.ChangeAt Go.RowKit
theorem r8Long_no (A B : Option Addr) (n m c d : Nat) (w : World) (hn : n ≤ 1048576) (hm : m ≤ 1048576) :
  Calls Tryz.prog 10 #[.slice A n c, .slice B m d] w fun e w' => e = .returned (.bool false) ∧ w = w' := by
 have h1 : ¬ (1048576 : Int) < (n : Int) := by omega
 have h2 : ¬ (1048576 : Int) < (m : Int) := by omega
 go_enter Tryz.func10, Tryz.ntmps10;go_wp2_with fail;go_ret;exact ⟨rfl, rfl⟩
theorem r8Long_yes (A B : Option Addr) (n m c d : Nat) (w : World) (h : 1048576 < n ∨ 1048576 < m) :
  Calls Tryz.prog 10 #[.slice A n c, .slice B m d] w fun e w' => e = .returned (.bool true) ∧ w = w' := by
 by_cases h1 : (1048576 : Int) < (n : Int)
 ·go_enter Tryz.func10, Tryz.ntmps10
  go_wp2_with fail;go_ret
  exact ⟨rfl, rfl⟩
 ·have h2 : (1048576 : Int) < (m : Int) := by omega
  go_enter Tryz.func10, Tryz.ntmps10;go_wp2_with fail;go_ret;exact ⟨rfl, rfl⟩
theorem r8AtI_calls (B : Option Addr) (m d : Nat) (more : List Int) (i N : Nat) (w : World) (lo hi : Nat) (h : SlU w lo hi B m more) (hc : ∀ x, x ∈ more → 0 ≤ x ∧ x ≤ 255) (hm : m ≤ maxLen) (hi : i ≤ 1000) (hN : 1 ≤ N ∧ N ≤ 1000) :
  Calls Tryz.prog 36 #[.slice B m d, .int .i64 (i : Int), .int .i64 (N : Int)] w fun e w' => ∃ k : Nat, e = .returned (.int .i64 (k : Int)) ∧ k < N ∧ w = w' := by
 have hm' : m ≤ 9223372036854775807 := by unfold maxLen at hm; omega
 clear hm;have i0 : (0 : Int) ≤ (i : Int) := by omega
 by_cases hN1 : N ≤ 1
 ·have n1 : (N : Int) ≤ 1 := by omega
  clear h hc;go_enter Tryz.func36, Tryz.ntmps36;go_wp2_with fail;go_ret;exact ⟨0, rfl, by omega, rfl⟩
 have n1 : ¬ (N : Int) ≤ 1 := by omega
 have n2 : ¬ (N : Int) = 0 := by omega
 by_cases h0 : i < m
 ·obtain ⟨b, off, rfl, g1, g2, g3, hcell⟩ := h.at_ (show 0 < m by omega)
  have hlen := h.len;obtain ⟨x, hx⟩ : ∃ x, more[i]? = some x := ⟨more[i]'(by omega), List.getElem?_eq_getElem (by omega)⟩;obtain ⟨hx0, hx1⟩ := hc x (List.mem_of_getElem? hx);have cx := (hcell i x hx 0 _ rfl).1;simp only [Nat.mul_one, Nat.add_zero] at cx;have m1 : ¬ (m : Int) ≤ (i : Int) := by omega
  have m2 : ¬ (i : Int) ≥ (m : Int) := by omega
  have m3 : (i : Int) < (m : Int) := by omega
  have hr := Int.emod_nonneg x n2;have hr2 := Int.emod_lt_of_pos x (show (0 : Int) < (N : Int) by omega);clear h hc hcell hx;go_enter Tryz.func36, Tryz.ntmps36;go_wp2_with fail;go_ret;refine ⟨(x % (N : Int)).toNat, ?_, by omega, rfl⟩
  first
   | (rw [Int.toNat_of_nonneg hr]; rfl)
   | (simp; omega)
 ·have m1 : (m : Int) ≤ (i : Int) := by omega
  clear h hc;go_enter Tryz.func36, Tryz.ntmps36;go_wp2_with fail;go_ret;exact ⟨0, rfl, by omega, rfl⟩
section
variable {w : World} {N ini : Nat} {A : Option Addr} {n : Nat} {B : Option Addr} {m : Nat} {ls : List ByteArray} {es : List Ed}
end
open Go.Lib Go.Sort
open Classical in
noncomputable def qM (N : Nat) (S : List Int) (P : Nat → Nat) (u : Nat) : Nat ⊕ Nat := if u < N then (if (u : Int) ∈ S then .inl (P (S.idxOf (u : Int))) else .inr u) else .inl (u - N)
def outG (p : List Int) (e : Ed) : Bool := !(inG p e)
noncomputable def lpE (es : List Ed) (N : Nat) (p : List Int) (k : Nat) : List Ed := ((List.range k).filter fun i => inS (dvgL (es.filter (inG p)) N) i).map fun i => ((p[i]?).getD 0, 0, (p[i]?).getD 0)
noncomputable def quoB (es : List Ed) (N : Nat) (dv : Bool) (p : List Int) : List Ed := if dv = true then Lib.compact (sortE (quoF p (outG p) es ++ lpE es N p N)) else quoF p (outG p) es
theorem reach_len {N : Nat} {es : List Ed} {ini : Int} : (reachF N es ini).length ≤ N := by
 unfold reachF;rw [List.length_map];exact Nat.le_trans (List.length_filter_le _ _) (by simp)
end Go.Proofs.YtnhomkmfbngmgaaGreatDoor
namespace Go.Proofs.YtnhomkmfbngmgaaGreatDoor
open Go.ChangeShapes Go.WideShapes Go.ChangeAt Go.RowKit
theorem SysA.labOkH {w : World} {N ini : Nat} {A : Option Addr} {n : Nat} {B : Option Addr} {m : Nat} {ls : List ByteArray} {es : List Ed} (h : SysA w N ini A n B m ls es) : ∀ s, s ∈ ls → labS s = true ∧ s.size ≤ 1048576 := fun s hs => by
 have hz := h.sz;have h1 : s.size ≤ (ls.map (·.size)).sum := mem_sum (List.mem_map_of_mem hs);unfold totS at hz;refine ⟨?_, by omega⟩;have h1 := h.ok;rw [ltsV_eq] at h1;simp only [Bool.and_eq_true, decide_eq_true_eq] at h1;obtain ⟨⟨-, -, h3, -⟩, -⟩ := h1;unfold namesB at h3;rw [Bool.and_eq_true] at h3;obtain ⟨k, hk⟩ := List.getElem?_of_mem hs;have hkl := (List.getElem?_eq_some_iff.1 hk).1;have h4 := allK_get h3.2 hkl
 by_cases e : labS s = true
 ·exact e
 ·rw [okL_bad hk (Bool.eq_false_iff.2 e)] at h4
  cases h4
theorem areActions1_calls (s : ByteArray) (w : World) (hs : s.size ≤ 1048576) : Calls Tryz.prog 177 (#[.string s] ++ #[]) w (Says (!actB s) w) := by
 have q := hide (isAction_calls s w hs);go_enter Tryz.func177, Tryz.ntmps177;go_wp2_with fail;refine q.out.mono ?_;rintro e w1 ⟨rfl, rfl⟩;go_wp2_with fail;go_ret;exact ⟨rfl, bR⟩
theorem areActions_calls (P : Option Addr) (q cp : Nat) (ns : List ByteArray) (w : World) (lo hi : Nat) (hP : SlS w lo hi P q ns) (hq : q ≤ 1000) (ht : ∀ s, s ∈ ns → actB s = true ∧ s.size ≤ 1048576) :
  Calls Tryz.prog 95 #[.slice P q cp] w fun e w' => e = .returned (.bool true) ∧ Below w.heap.size w w' := by
 have qC := containsFuncS_calls 177 #[] (fun s => !actB s) P q cp ns w _ _ hP (by omega)
  (fun v W => by kernel_rfl)
  (fun s W hs hW => areActions1_calls s W (ht s hs).2)
 rw [show ns.any (fun s => !actB s) = false from by
  rw [List.any_eq_false];intro s hs;rw [(ht s hs).1]
  decide] at qC
 replace qC := hide qC;clear hP ht;go_enter Tryz.func95, Tryz.ntmps95;go_wp2_with fail;refine qC.out.mono ?_;rintro e w1 ⟨rfl, hb⟩;replace hb := hide hb;go_wp2_with fail;go_ret;exact ⟨rfl, hb.out⟩
section
variable {w w' : World} {N ini : Nat} {A : Option Addr} {n : Nat} {B : Option Addr} {m : Nat} {ls : List ByteArray} {es : List Ed}
def HidR (w w' : World) (N ini : Nat) (ls : List ByteArray) (es : List Ed) (ns : List ByteArray) (A2 : Option Addr) (n2 : Nat) (A3 : Option Addr) (n3 : Nat) : Prop :=
 SlS w' w.heap.size w'.heap.size A2 n2 (trnL (hidN ns) ls) ∧ SlE w' w.heap.size w'.heap.size A3 n3 (trnE (hidN ns) ls es) ∧ Below w.heap.size w w'
theorem hideLabels_calls (h : SysA w N ini A n B m ls es) (c d : Nat) (he : Env w) (P : Option Addr) (q cp : Nat) (ns : List ByteArray) (lo hi : Nat) (hP : SlS w lo hi P q ns) (hq : q ≤ 1000) :
  Calls Tryz.prog 101 #[.agg #[.int .i64 (N : Int), .int .i64 (ini : Int), .slice A n c, .slice B m d], .slice P q cp] w fun e w' => ∃ A2 n2 c2 A3 n3 c3, e = .returned (.agg #[.int .i64 (N : Int), .int .i64 (ini : Int), .slice A2 n2 c2, .slice A3 n3 c3]) ∧ HidR w w' N ini ls es ns A2 n2 A3 n3 := by
 obtain ⟨wB, hwB⟩ : ∃ wB, wB = w.alloc (ltsC N ini A n c B m d) := ⟨_, rfl⟩;have zB : wB.heap.size = w.heap.size + 1 := by rw [hwB]; exact World.size_alloc _ _
 obtain ⟨wN, hwN⟩ : ∃ wN, wN = wB.alloc (.cells #[.slice P q cp] 24) := ⟨_, rfl⟩;have zN : wN.heap.size = w.heap.size + 1 + 1 := by rw [hwN, World.size_alloc, zB]
 obtain ⟨w1, hw1⟩ : ∃ w1, w1 = wN.alloc (.cells #[.int .i64 0, .int .i64 0, .slice none 0 0, .slice none 0 0] 27) := ⟨_, rfl⟩;have hB := h.box (c := c) (d := d);rw [← hwB] at hB;have hbBN : Below wB.heap.size wB wN := by rw [hwN]; exact bR.alloc zR _
 have hbN1 : Below wN.heap.size wN w1 := by rw [hw1]; exact bR.alloc zR _
 have hbB1 : Below wB.heap.size wB w1 := hbBN.trans (hbN1.mono hbBN.size);have hB1 := hB.below hbB1;have kN0 : wN.heap[w.heap.size + 1]? = some (.cells #[.slice P q cp] 24 (0, 0)) := by
  have := heap_alloc_new wB (.cells #[.slice P q cp] 24);rw [zB] at this;rw [hwN]; exact this
 have kN : w1.heap[w.heap.size + 1]? = some (.cells #[.slice P q cp] 24 (0, 0)) := (hbN1.block _ (by omega)).trans kN0;have kR : w1.heap[w.heap.size + 1 + 1]? = some (.cells #[.int .i64 0, .int .i64 0, .slice none 0 0, .slice none 0 0] 27 (0, 0)) := by
  have := heap_alloc_new wN (.cells #[.int .i64 0, .int .i64 0, .slice none 0 0, .slice none 0 0] 27);rw [zN] at this;rw [hw1]; exact this
 have hkl : w.heap.size + 1 + 1 < w1.heap.size := (Array.getElem?_eq_some_iff.1 kR).1;have hlab := h.labOkH;have q1 := hide (relabel_calls hB1.sys c d 188 #[.pointer (some ⟨w.heap.size + 1, 0, none⟩)] (hidN ns) (fun v W => by kernel_rfl) (fun s hs W hW =>
  hide1_calls ns s (w.heap.size + 1) P q cp W _ _ ((cell_of_row _ _ 0 _ _ (0, 0) ((hW.block _ (by omega)).trans kN)).trans rfl) (by have := hW.size; omega) ((hP.below hB1.bel (.inr zR)).below hW (.inr zR)) (by omega) (hlab s hs).2 ((he.below hB1.bel zR).below hW zR) (hlab s hs).1))
 have b0 := hB1.box.c0;have b1 := hB1.box.c1;have b2 := hB1.box.c2;have b3 := hB1.box.c3;have hbel := hide hB1.bel;replace hB1 := hide hB1;replace kR := hide kR;clear h hB hbB1 hbBN hbN1 he hlab kN0 kN hP;go_enter Tryz.func101, Tryz.ntmps101;go_upto_region 1 with fail;rw [show (((w.alloc (.cells #[.int .i64 (N : Int), .int .i64 (ini : Int), .slice A n c, .slice B m d] 27)).alloc (.cells #[.slice P q cp] 24)).alloc (.cells #[.int .i64 0, .int .i64 0, .slice none 0 0, .slice none 0 0] 27)) = w1 from by rw [hw1, hwN, hwB]];replace hw1 := hide hw1;replace hwN := hide hwN;replace hwB := hide hwB;go_wp2_with fail;refine q1.out.mono ?_;rintro e w4 ⟨A2, n2, c2, A3, n3, c3, rfl, hS, hE, hb⟩;have h8 : w4.heap[w.heap.size + 1 + 1]? = _ := (hb.block _ hkl).trans kR.out;have a0 : w4.cell? ⟨w.heap.size + 1 + 1, 0, none⟩ = some (.int .i64 0) := cR 0 h8;have a1 : w4.cell? ⟨w.heap.size + 1 + 1, 1, none⟩ = some (.int .i64 0) := cR 1 h8;have a2 : w4.cell? ⟨w.heap.size + 1 + 1, 2, none⟩ = some (.slice none 0 0) := cR 2 h8;have a3 : w4.cell? ⟨w.heap.size + 1 + 1, 3, none⟩ = some (.slice none 0 0) := cR 3 h8;have y0 : w4.frozen? ⟨w.heap.size + 1 + 1, 0, none⟩ = false := frozen_of_row _ _ 0 _ _ h8;have y1 : w4.frozen? ⟨w.heap.size + 1 + 1, 1, none⟩ = false := frozen_of_row _ _ 1 _ _ h8;have y2 : w4.frozen? ⟨w.heap.size + 1 + 1, 2, none⟩ = false := frozen_of_row _ _ 2 _ _ h8;have y3 : w4.frozen? ⟨w.heap.size + 1 + 1, 3, none⟩ = false := frozen_of_row _ _ 3 _ _ h8;have hbF := hide (hbel.out.trans (hb.mono (by omega)));have hz4 := hb.size;replace hS := hide hS;replace hE := hide hE;replace hb := hide hb;replace h8 := hide h8;clear q1 b0 b1 b2 b3;go_wp2_with fail
 (try simp only [Exit.inBlock, Exit.then])
 refine bodyPost_ret_by (v := .agg #[.int .i64 (N : Int), .int .i64 (ini : Int), .slice A2 n2 c2, .slice A3 n3 c3]) ?_ rfl ?_
 focus
  rw [results_cell1 rfl];go_simp
 have hZs := put4_size w4 (w.heap.size + 1 + 1) (.int .i64 (N : Int)) (.int .i64 (ini : Int)) (.slice A2 n2 c2) (.slice A3 n3 c3);have hf : ∀ q, q ≠ w.heap.size + 1 + 1 → (put4 w4 (w.heap.size + 1 + 1) (.int .i64 (N : Int)) (.int .i64 (ini : Int)) (.slice A2 n2 c2) (.slice A3 n3 c3)).heap[q]? = w4.heap[q]? := fun q hq => put4_other _ _ _ _ _ _ hq
 refine ⟨A2, n2, c2, A3, n3, c3, rfl, ?_⟩
 change HidR w (put4 w4 (w.heap.size + 1 + 1) (.int .i64 (N : Int)) (.int .i64 (ini : Int)) (.slice A2 n2 c2) (.slice A3 n3 c3)) _ _ _ _ _ _ _ _ _
 refine ⟨?_, ?_, ?_⟩
 ·exact (Sl.keep hS.out (Nat.le_of_eq hZs.symm) fun q h1 h2 h3 => hf q (by omega)).more (by omega) (Nat.le_of_eq hZs.symm)
 ·exact (Sl.keep hE.out (Nat.le_of_eq hZs.symm) fun q h1 h2 h3 => hf q (by omega)).more (by omega) (Nat.le_of_eq hZs.symm)
 ·exact ⟨hbF.out.os, hbF.out.tape, hbF.out.output, Nat.le_trans hbF.out.size (Nat.le_of_eq hZs.symm), fun q hq => (hf q (by omega)).trans (hbF.out.block q hq)⟩
end
def chkV (v : Bool) (t : Value) : Value := if v then .tuple #[t, .int .i64 0] else .tuple #[.agg #[.int .i64 0, .int .i64 0, .slice none 0 0, .slice none 0 0], .int .i64 5]
theorem checked_calls (s i : Int) (A : Option Addr) (n c : Nat) (B : Option Addr) (m d : Nat) (w : World) (v : Bool)
  (hV : ∀ W : World, Below w.heap.size w W → Calls Tryz.prog 54 #[.agg #[.int .i64 s, .int .i64 i, .slice A n c, .slice B m d]] W fun e w' => e = .returned (.bool v) ∧ Below W.heap.size W w') :
  Calls Tryz.prog 96 #[.agg #[.int .i64 s, .int .i64 i, .slice A n c, .slice B m d]] w fun e w' => e = .returned (chkV v (.agg #[.int .i64 s, .int .i64 i, .slice A n c, .slice B m d])) ∧ Below w.heap.size w w' := by
 obtain ⟨wB, hwB⟩ : ∃ wB, wB = w.alloc (.cells #[.int .i64 s, .int .i64 i, .slice A n c, .slice B m d] 27) := ⟨_, rfl⟩;have zB : wB.heap.size = w.heap.size + 1 := by rw [hwB]; exact World.size_alloc _ _
 obtain ⟨w1, hw1⟩ : ∃ w1, w1 = wB.alloc (.cells #[.int .i64 0, .int .i64 0, .slice none 0 0, .slice none 0 0] 27) := ⟨_, rfl⟩;have hbB1 : Below wB.heap.size wB w1 := by rw [hw1]; exact bR.alloc zR _
 have hb0 : Below w.heap.size w w1 := (show Below w.heap.size w wB by rw [hwB]; exact bR.alloc zR _).trans (hbB1.mono (by omega));have kB0 : wB.heap[w.heap.size]? = some (.cells #[.int .i64 s, .int .i64 i, .slice A n c, .slice B m d] 27 (0, 0)) := by rw [hwB]; exact heap_alloc_new w _
 have kB : w1.heap[w.heap.size]? = some (.cells #[.int .i64 s, .int .i64 i, .slice A n c, .slice B m d] 27 (0, 0)) := (hbB1.block _ (by omega)).trans kB0;have kR : w1.heap[w.heap.size + 1]? = some (.cells #[.int .i64 0, .int .i64 0, .slice none 0 0, .slice none 0 0] 27 (0, 0)) := by
  have := heap_alloc_new wB (.cells #[.int .i64 0, .int .i64 0, .slice none 0 0, .slice none 0 0] 27);rw [zB] at this;rw [hw1]; exact this
 have hkl : w.heap.size + 1 < w1.heap.size := (Array.getElem?_eq_some_iff.1 kR).1;have b0 := (cell_of_row _ _ 0 _ _ (0, 0) kB).trans (show _ = some (Value.int .i64 s) from rfl);have b1 := (cell_of_row _ _ 1 _ _ (0, 0) kB).trans (show _ = some (Value.int .i64 i) from rfl);have b2 := (cell_of_row _ _ 2 _ _ (0, 0) kB).trans (show _ = some (Value.slice A n c) from rfl);have b3 := (cell_of_row _ _ 3 _ _ (0, 0) kB).trans (show _ = some (Value.slice B m d) from rfl);have q1 := hV w1 hb0;replace hb0 := hide hb0;replace kB := hide kB;replace kR := hide kR;clear kB0 hV hbB1;have tail : ∀ (w2 : World), Below w1.heap.size w1 w2 → ∀ x0 x1 x2 x3 : Value, Below w.heap.size w (put4 w2 (w.heap.size + 1) x0 x1 x2 x3) := fun w2 hb2 x0 x1 x2 x3 => by
  have h1 := hb0.out.trans (hb2.mono hb0.out.size);have hZs := put4_size w2 (w.heap.size + 1) x0 x1 x2 x3;exact ⟨h1.os, h1.tape, h1.output, Nat.le_trans h1.size (Nat.le_of_eq hZs.symm), fun q hq => (put4_other _ _ _ _ _ _ (by omega)).trans (h1.block q hq)⟩
 replace tail := hide tail
 cases v with
 | true =>
  replace q1 := hide q1;go_enter Tryz.func96, Tryz.ntmps96;go_upto_region 1 with fail;rw [show ((w.alloc (.cells #[.int .i64 s, .int .i64 i, .slice A n c, .slice B m d] 27)).alloc (.cells #[.int .i64 0, .int .i64 0, .slice none 0 0, .slice none 0 0] 27)) = w1 from by rw [hw1, hwB]];replace hw1 := hide hw1;replace hwB := hide hwB;go_wp2_with fail;refine q1.out.mono ?_;rintro e w2 ⟨rfl, hb2⟩;have k2 := (hb2.block _ (by omega)).trans kB.out;have h8 := (hb2.block _ hkl).trans kR.out;clear b0 b1 b2 b3;have b0 := (cell_of_row _ _ 0 _ _ (0, 0) k2).trans (show _ = some (Value.int .i64 s) from rfl);have b1 := (cell_of_row _ _ 1 _ _ (0, 0) k2).trans (show _ = some (Value.int .i64 i) from rfl);have b2 := (cell_of_row _ _ 2 _ _ (0, 0) k2).trans (show _ = some (Value.slice A n c) from rfl);have b3 := (cell_of_row _ _ 3 _ _ (0, 0) k2).trans (show _ = some (Value.slice B m d) from rfl);have a0 : w2.cell? ⟨w.heap.size + 1, 0, none⟩ = some (.int .i64 0) := cR 0 h8;have a1 : w2.cell? ⟨w.heap.size + 1, 1, none⟩ = some (.int .i64 0) := cR 1 h8;have a2 : w2.cell? ⟨w.heap.size + 1, 2, none⟩ = some (.slice none 0 0) := cR 2 h8;have a3 : w2.cell? ⟨w.heap.size + 1, 3, none⟩ = some (.slice none 0 0) := cR 3 h8;have y0 : w2.frozen? ⟨w.heap.size + 1, 0, none⟩ = false := frozen_of_row _ _ 0 _ _ h8;have y1 : w2.frozen? ⟨w.heap.size + 1, 1, none⟩ = false := frozen_of_row _ _ 1 _ _ h8;have y2 : w2.frozen? ⟨w.heap.size + 1, 2, none⟩ = false := frozen_of_row _ _ 2 _ _ h8;have y3 : w2.frozen? ⟨w.heap.size + 1, 3, none⟩ = false := frozen_of_row _ _ 3 _ _ h8;have hT := hide (tail.out w2 hb2);clear k2 q1 hb2 tail;replace h8 := hide h8;go_wp2_with fail
  (try simp only [Exit.inBlock, Exit.then])
  refine bodyPost_ret_by (v := .tuple #[.agg #[.int .i64 s, .int .i64 i, .slice A n c, .slice B m d], .int .i64 0]) ?_ rfl ?_
  focus
   rw [results_cs rfl];go_simp
  exact ⟨rfl, hT.out _ _ _ _⟩
 | false =>
  replace q1 := hide q1;go_enter Tryz.func96, Tryz.ntmps96;go_upto_region 1 with fail;rw [show ((w.alloc (.cells #[.int .i64 s, .int .i64 i, .slice A n c, .slice B m d] 27)).alloc (.cells #[.int .i64 0, .int .i64 0, .slice none 0 0, .slice none 0 0] 27)) = w1 from by rw [hw1, hwB]];replace hw1 := hide hw1;replace hwB := hide hwB;go_wp2_with fail;refine q1.out.mono ?_;rintro e w2 ⟨rfl, hb2⟩;have h8 := (hb2.block _ hkl).trans kR.out;clear b0 b1 b2 b3;have a0 : w2.cell? ⟨w.heap.size + 1, 0, none⟩ = some (.int .i64 0) := cR 0 h8;have a1 : w2.cell? ⟨w.heap.size + 1, 1, none⟩ = some (.int .i64 0) := cR 1 h8;have a2 : w2.cell? ⟨w.heap.size + 1, 2, none⟩ = some (.slice none 0 0) := cR 2 h8;have a3 : w2.cell? ⟨w.heap.size + 1, 3, none⟩ = some (.slice none 0 0) := cR 3 h8;have y0 : w2.frozen? ⟨w.heap.size + 1, 0, none⟩ = false := frozen_of_row _ _ 0 _ _ h8;have y1 : w2.frozen? ⟨w.heap.size + 1, 1, none⟩ = false := frozen_of_row _ _ 1 _ _ h8;have y2 : w2.frozen? ⟨w.heap.size + 1, 2, none⟩ = false := frozen_of_row _ _ 2 _ _ h8;have y3 : w2.frozen? ⟨w.heap.size + 1, 3, none⟩ = false := frozen_of_row _ _ 3 _ _ h8;have hT := hide (tail.out w2 hb2);clear q1 hb2 tail;replace h8 := hide h8;go_wp2_with fail
  (try simp only [Exit.inBlock, Exit.then])
  refine bodyPost_ret_by (v := .tuple #[.agg #[.int .i64 0, .int .i64 0, .slice none 0 0, .slice none 0 0], .int .i64 5]) ?_ rfl ?_
  focus
   rw [results_cs rfl];go_simp
  exact ⟨rfl, hT.out _ _ _ _⟩
open Go.Lib Go.Sort
section
variable {w w' : World} {Na ia : Nat} {A : Option Addr} {n : Nat} {B : Option Addr} {m : Nat} {la : List ByteArray} {ea : List Ed} {Nb ib : Nat} {A' : Option Addr} {n' : Nat} {B' : Option Addr} {m' : Nat} {lb : List ByteArray} {eb : List Ed}
def PltR (w w' : World) (Na ia : Nat) (la : List ByteArray) (ea : List Ed) (Nb ib : Nat) (lb : List ByteArray) (eb : List Ed) (ns : List ByteArray) (S : List (Int × Int)) (arcs : List Arc) (i : Nat) (A2 : Option Addr) (n2 : Nat) (A3 : Option Addr) (n3 : Nat) : Prop :=
 ProdL (stI la ea) (stI lb eb) (anyN ns) (ia : Int) (ib : Int) S arcs i ∧ SlS w' w.heap.size w'.heap.size A2 n2 (joiF (la ++ lb)) ∧ SlE w' w.heap.size w'.heap.size A3 n3 (ltsEs (la ++ lb) arcs) ∧ Below w.heap.size w w'
theorem productLts_calls (h : SysA w Na ia A n B m la ea) (g : SysA w Nb ib A' n' B' m' lb eb) (c d c' d' : Nat) (he : Env w) (P : Option Addr) (q cp : Nat) (ns : List ByteArray) (lo hi : Nat) (hP : SlS w lo hi P q ns) (hq : q ≤ 1000) (ht : ∀ s, s ∈ ns → actB s = true ∧ s.size ≤ 1048576) (hz : totS (joiF (la ++ lb)) ≤ 100000) :
  Calls Tryz.prog 37 #[.agg #[.int .i64 (Na : Int), .int .i64 (ia : Int), .slice A n c, .slice B m d], .agg #[.int .i64 (Nb : Int), .int .i64 (ib : Int), .slice A' n' c', .slice B' m' d'], .slice P q cp] w fun e w' =>
   ∃ (S : List (Int × Int)) (arcs : List Arc) (i : Nat) (A2 : Option Addr) (n2 c2 : Nat) (A3 : Option Addr) (n3 c3 : Nat), e = .returned (chkV (ltsV (prodD S i la lb arcs)) (.agg #[.int .i64 (S.length : Int), .int .i64 (i : Int), .slice A2 n2 c2, .slice A3 n3 c3])) ∧ PltR w w' Na ia la ea Nb ib lb eb ns S arcs i A2 n2 A3 n3 := by
 obtain ⟨w2, hw2⟩ : ∃ w2, w2 = (w.alloc (ltsC Na ia A n c B m d)).alloc (ltsC Nb ib A' n' c' B' m' d') := ⟨_, rfl⟩;have hT := TwoS.start w Na ia A n c B m d Nb ib A' n' c' B' m' d';rw [← hw2] at hT;have z2 : w2.heap.size = w.heap.size + 1 + 1 := by rw [hw2, World.size_alloc, World.size_alloc]
 obtain ⟨wN, hwN⟩ : ∃ wN, wN = w2.alloc (.cells #[.slice P q cp] 24) := ⟨_, rfl⟩;have zN : wN.heap.size = w.heap.size + 1 + 1 + 1 := by rw [hwN, World.size_alloc, z2]
 obtain ⟨w1, hw1⟩ : ∃ w1, w1 = wN.alloc (.cells #[.int .i64 0, .int .i64 0, .slice none 0 0, .slice none 0 0] 27) := ⟨_, rfl⟩;have hb2N : Below w2.heap.size w2 wN := by rw [hwN]; exact bR.alloc zR _
 have hbN1 : Below wN.heap.size wN w1 := by rw [hw1]; exact bR.alloc zR _
 have hT1 := hT.below (hb2N.trans (hbN1.mono hb2N.size)) zR;have kN0 : wN.heap[w.heap.size + 1 + 1]? = some (.cells #[.slice P q cp] 24 (0, 0)) := by
  have := heap_alloc_new w2 (.cells #[.slice P q cp] 24);rw [z2] at this;rw [hwN]; exact this
 have kN := hide ((hbN1.block _ (by omega)).trans kN0);have kR : w1.heap[w.heap.size + 1 + 1 + 1]? = some (.cells #[.int .i64 0, .int .i64 0, .slice none 0 0, .slice none 0 0] 27 (0, 0)) := by
  have := heap_alloc_new wN (.cells #[.int .i64 0, .int .i64 0, .slice none 0 0, .slice none 0 0] 27);rw [zN] at this;rw [hw1]; exact this
 have hkl : w.heap.size + 1 + 1 + 1 < w1.heap.size := (Array.getElem?_eq_some_iff.1 kR).1;have hHW := hide (fun (W : World) (hW : Below w.heap.size w W) => h.below hW zR);have hGW := hide (fun (W : World) (hW : Below w.heap.size w W) => g.below hW zR);have hPW := hide (fun (W : World) (hW : Below w.heap.size w W) => hP.below hW (.inr zR));have heW := hide (fun (W : World) (hW : Below w.heap.size w W) => he.below hW zR);have htH := hide ht;have hlabA := hide h.labOkH;have hlabB := hide g.labOkH;have hva := hide h.ok;have hvb := hide g.ok;have hma := hide h.many;have hmb := hide g.many;have hba := hide h.bounds;have hbb := hide g.bounds;have hzH := hide hz;have q1 := hide ((hHW.out w1 hT1.bel).valid c d (heW.out w1 hT1.bel));obtain ⟨a0, a1, a2, a3, b0, b1, b2, b3⟩ := hT1.cells;replace hT1 := hide hT1;replace kR := hide kR;clear h g hT hb2N hbN1 he kN0 hP ht hz;go_enter Tryz.func37, Tryz.ntmps37;go_upto_region 1 with fail;rw [show ((((w.alloc (.cells #[.int .i64 (Na : Int), .int .i64 (ia : Int), .slice A n c, .slice B m d] 27)).alloc (.cells #[.int .i64 (Nb : Int), .int .i64 (ib : Int), .slice A' n' c', .slice B' m' d'] 27)).alloc (.cells #[.slice P q cp] 24)).alloc (.cells #[.int .i64 0, .int .i64 0, .slice none 0 0, .slice none 0 0] 27)) = w1 from by rw [hw1, hwN, hw2]];replace hw1 := hide hw1;replace hwN := hide hwN;replace hw2 := hide hw2;go_wp2_with fail;refine q1.out.mono ?_;rintro e w3 ⟨rfl, hb3⟩;have hT3 := hide (hT1.out.below hb3 zR);have hz3 := hb3.size;have q2 := hide ((hGW.out w3 hT3.out.bel).valid c' d' (heW.out w3 hT3.out.bel));have kN3 := hide ((hb3.block _ (by omega)).trans kN.out);have kR3 := hide ((hb3.block _ hkl).trans kR.out);clear a0 a1 a2 a3 b0 b1 b2 b3 hb3 q1;obtain ⟨a0, a1, a2, a3, b0, b1, b2, b3⟩ := hT3.out.cells;go_wp2_with fail;refine q2.out.mono ?_;rintro e w4 ⟨rfl, hb4⟩;have hT4 := hide (hT3.out.below hb4 zR);have hz4 := hb4.size;have q3 := hide (areActions_calls P q cp ns w4 _ _ (hPW.out w4 hT4.out.bel) hq htH.out);have kN4 := hide ((hb4.block _ (by omega)).trans kN3.out);have kR4 := hide ((hb4.block _ (by omega)).trans kR3.out);have n0 := (cell_of_row _ _ 0 _ _ (0, 0) kN4.out).trans (show _ = some (Value.slice P q cp) from rfl);clear a0 a1 a2 a3 b0 b1 b2 b3 hb4 q2 kN3 kR3 hT3;go_wp2_with fail;refine q3.out.mono ?_;rintro e w5 ⟨rfl, hb5⟩;have hT5 := hide (hT4.out.below hb5 zR);have hz5 := hb5.size;have kN5 := hide ((hb5.block _ (by omega)).trans kN4.out);have kR5 := hide ((hb5.block _ (by omega)).trans kR4.out);have q4 := hide (productOf_calls (hHW.out w5 hT5.out.bel) (hGW.out w5 hT5.out.bel) c d c' d' 98 #[.pointer (some ⟨w.heap.size + 1 + 1, 0, none⟩)] (anyN ns) (fun v W => by kernel_rfl) (fun s hs W hW => by
  have hl : labS s = true ∧ s.size ≤ 1048576 := by
   rcases hs with hs | hs
   ·exact hlabA.out s hs
   ·exact hlabB.out s hs
  have hW2 := hT5.out.bel.trans (hW.mono (by omega));exact shared1_calls ns s (w.heap.size + 1 + 1) P q cp W _ _ ((cell_of_row _ _ 0 _ _ (0, 0) ((hW.block _ (by omega)).trans kN5.out)).trans rfl) (by have := hW.size; omega) (hPW.out W hW2) (by omega) hl.2 (heW.out W hW2) hl.1))
 obtain ⟨a0, a1, a2, a3, b0, b1, b2, b3⟩ := hT5.out.cells;clear hb5 q3 kN4 kR4 hT4 n0;go_wp2_with fail;refine q4.out.mono ?_;rintro e w6 ⟨S, arcs, i, A2, n2, c2, A3, n3, c3, rfl, hPd, hSl, hS, hE, hb6, -⟩;have hz6 := hb6.size;have hT6 := hide (hT5.out.below hb6 zR);have kR6 := hide ((hb6.block _ (by omega)).trans kR5.out);have hfew := prod_few hva.out hvb.out (by have := hba.out; omega) (by have := hbb.out; omega) (by have := hma.out; omega) (by have := hmb.out; omega) hPd;have hEs := hE.sl flat_ev;have hn2 := hS.len;have hn3 := hEs.len;have hjl : (joiF (la ++ lb)).length ≤ 100000 := by have := hzH.out; unfold totS at this; omega
 have hjs : ∀ s, s ∈ joiF (la ++ lb) → s.size ≤ 100000 := fun s hs => by
  have h1 : s.size ≤ ((joiF (la ++ lb)).map (·.size)).sum := mem_sum (List.mem_map_of_mem hs);have := hzH.out;unfold totS at this;omega
 have hml : 200000 ≤ maxLen := by unfold maxLen; omega
 have q5 := checked_calls (S.length : Int) (i : Int) A2 n2 c2 A3 n3 c3 w6 (ltsV (prodD S i la lb arcs)) (fun W hW =>
  validLts_calls ((S.length : Int), (i : Int), .slice A2 n2 c2, .slice A3 n3 c3) (prodD S i la lb arcs) W 0 W.heap.size
   ⟨rfl, rfl, ⟨A2, n2, c2, rfl, by omega, fun s hs => by have := hjs s hs; omega, (hS.below hW (.inr zR)).here'⟩, ⟨A3, n3, c3, rfl, by omega, (hEs.below hW (.inr zR)).here'⟩⟩
   (by show totS (joiF (la ++ lb)) + (ltsEs (la ++ lb) arcs).length ≤ 1048576; have := hzH.out; omega) (heW.out W (hT6.out.bel.trans (hW.mono (by have := hT6.out.bel.size; omega)))))
 replace hPd := hide hPd;replace hS := hide hS;replace hEs := hide hEs;replace hb6 := hide hb6;clear a0 a1 a2 a3 b0 b1 b2 b3 q4 hE hfew hjs hn2 hn3;have fin : ∀ (w7 : World) (t : Value), Below w6.heap.size w6 w7 → ∀ x0 x1 x2 x3 : Value, PltR w (put4 w7 (w.heap.size + 1 + 1 + 1) x0 x1 x2 x3) Na ia la ea Nb ib lb eb ns S arcs i A2 n2 A3 n3 := fun w7 t hb7 x0 x1 x2 x3 => by
  have hbF := hT6.out.bel.trans (hb7.mono hT6.out.bel.size);have hZs := put4_size w7 (w.heap.size + 1 + 1 + 1) x0 x1 x2 x3;have hf : ∀ q, q ≠ w.heap.size + 1 + 1 + 1 → (put4 w7 (w.heap.size + 1 + 1 + 1) x0 x1 x2 x3).heap[q]? = w7.heap[q]? := fun q hq => put4_other _ _ _ _ _ _ hq
  have hz7 := hb7.size;have h1 := hS.out.below hb7 (.inr zR);have h2 := hEs.out.below hb7 (.inr zR);refine ⟨hPd.out, ?_, ?_, ?_⟩
  ·exact (Sl.keep h1 (Nat.le_of_eq hZs.symm) fun q g1 g2 g3 => hf q (by omega)).more (by omega) (by omega)
  ·exact (Sl.keep h2 (Nat.le_of_eq hZs.symm) fun q g1 g2 g3 => hf q (by omega)).more (by omega) (by omega)
  ·exact ⟨hbF.os, hbF.tape, hbF.output, Nat.le_trans hbF.size (Nat.le_of_eq hZs.symm), fun q hq => (hf q (by omega)).trans (hbF.block q hq)⟩
 replace fin := hide fin
 cases hvv : ltsV (prodD S i la lb arcs) with
 | true =>
  rw [hvv] at q5;unfold chkV at q5;rw [if_pos rfl] at q5;replace q5 := hide q5;replace hvv := hide hvv;go_wp2_with fail;refine q5.out.mono ?_;rintro e w7 ⟨rfl, hb7⟩;have h8 := (hb7.block _ (by omega)).trans kR6.out;have a0 : w7.cell? ⟨w.heap.size + 1 + 1 + 1, 0, none⟩ = some (.int .i64 0) := cR 0 h8;have a1 : w7.cell? ⟨w.heap.size + 1 + 1 + 1, 1, none⟩ = some (.int .i64 0) := cR 1 h8;have a2 : w7.cell? ⟨w.heap.size + 1 + 1 + 1, 2, none⟩ = some (.slice none 0 0) := cR 2 h8;have a3 : w7.cell? ⟨w.heap.size + 1 + 1 + 1, 3, none⟩ = some (.slice none 0 0) := cR 3 h8;have y0 : w7.frozen? ⟨w.heap.size + 1 + 1 + 1, 0, none⟩ = false := frozen_of_row _ _ 0 _ _ h8;have y1 : w7.frozen? ⟨w.heap.size + 1 + 1 + 1, 1, none⟩ = false := frozen_of_row _ _ 1 _ _ h8;have y2 : w7.frozen? ⟨w.heap.size + 1 + 1 + 1, 2, none⟩ = false := frozen_of_row _ _ 2 _ _ h8;have y3 : w7.frozen? ⟨w.heap.size + 1 + 1 + 1, 3, none⟩ = false := frozen_of_row _ _ 3 _ _ h8;have hF := hide (fin.out w7 (.int .i64 0) hb7);clear q5 hb7 fin;replace h8 := hide h8;go_wp2_with fail
  (try simp only [Exit.inBlock, Exit.then])
  refine bodyPost_ret_by (v := .tuple #[.agg #[.int .i64 (S.length : Int), .int .i64 (i : Int), .slice A2 n2 c2, .slice A3 n3 c3], .int .i64 0]) ?_ rfl ?_
  focus
   rw [results_cs rfl];go_simp
  refine ⟨S, arcs, i, A2, n2, c2, A3, n3, c3, ?_, hF.out _ _ _ _⟩;rw [hvv.out]
  rfl
 | false =>
  rw [hvv] at q5;unfold chkV at q5;rw [if_neg (by decide)] at q5;replace q5 := hide q5;replace hvv := hide hvv;go_wp2_with fail;refine q5.out.mono ?_;rintro e w7 ⟨rfl, hb7⟩;have h8 := (hb7.block _ (by omega)).trans kR6.out;have a0 : w7.cell? ⟨w.heap.size + 1 + 1 + 1, 0, none⟩ = some (.int .i64 0) := cR 0 h8;have a1 : w7.cell? ⟨w.heap.size + 1 + 1 + 1, 1, none⟩ = some (.int .i64 0) := cR 1 h8;have a2 : w7.cell? ⟨w.heap.size + 1 + 1 + 1, 2, none⟩ = some (.slice none 0 0) := cR 2 h8;have a3 : w7.cell? ⟨w.heap.size + 1 + 1 + 1, 3, none⟩ = some (.slice none 0 0) := cR 3 h8;have y0 : w7.frozen? ⟨w.heap.size + 1 + 1 + 1, 0, none⟩ = false := frozen_of_row _ _ 0 _ _ h8;have y1 : w7.frozen? ⟨w.heap.size + 1 + 1 + 1, 1, none⟩ = false := frozen_of_row _ _ 1 _ _ h8;have y2 : w7.frozen? ⟨w.heap.size + 1 + 1 + 1, 2, none⟩ = false := frozen_of_row _ _ 2 _ _ h8;have y3 : w7.frozen? ⟨w.heap.size + 1 + 1 + 1, 3, none⟩ = false := frozen_of_row _ _ 3 _ _ h8;have hF := hide (fin.out w7 (.int .i64 0) hb7);clear q5 hb7 fin;replace h8 := hide h8;go_wp2_with fail
  (try simp only [Exit.inBlock, Exit.then])
  refine bodyPost_ret_by (v := .tuple #[.agg #[.int .i64 0, .int .i64 0, .slice none 0 0, .slice none 0 0], .int .i64 5]) ?_ rfl ?_
  focus
   rw [results_cs rfl];go_simp
  refine ⟨S, arcs, i, A2, n2, c2, A3, n3, c3, ?_, hF.out _ _ _ _⟩;rw [hvv.out]
  rfl
end
end Go.Proofs.YtnhomkmfbngmgaaGreatDoor
namespace Go.Proofs.YtnhomkmfbngmgaaGreatDoor
open Go.ChangeShapes Go.WideShapes Go.ChangeAt Go.RowKit
section
variable {w w' : World} {N ini : Nat} {A : Option Addr} {n : Nat} {B : Option Addr} {m : Nat} {ls : List ByteArray} {es : List Ed}
theorem hideLts_calls (h : SysA w N ini A n B m ls es) (c d : Nat) (he : Env w) (P : Option Addr) (q cp : Nat) (ns : List ByteArray) (lo hi : Nat) (hP : SlS w lo hi P q ns) (hq : q ≤ 1000) (ht : ∀ s, s ∈ ns → actB s = true ∧ s.size ≤ 1048576) :
  Calls Tryz.prog 38 #[.agg #[.int .i64 (N : Int), .int .i64 (ini : Int), .slice A n c, .slice B m d], .slice P q cp] w fun e w' => ∃ A2 n2 c2 A3 n3 c3, e = .returned (.tuple #[.agg #[.int .i64 (N : Int), .int .i64 (ini : Int), .slice A2 n2 c2, .slice A3 n3 c3], .int .i64 0]) ∧ HidR w w' N ini ls es ns A2 n2 A3 n3 := by
 obtain ⟨wB, hwB⟩ : ∃ wB, wB = w.alloc (ltsC N ini A n c B m d) := ⟨_, rfl⟩;have zB : wB.heap.size = w.heap.size + 1 := by rw [hwB]; exact World.size_alloc _ _
 obtain ⟨w1, hw1⟩ : ∃ w1, w1 = wB.alloc (.cells #[.int .i64 0, .int .i64 0, .slice none 0 0, .slice none 0 0] 27) := ⟨_, rfl⟩;have hB := h.box (c := c) (d := d);rw [← hwB] at hB;have hbB1 : Below wB.heap.size wB w1 := by rw [hw1]; exact bR.alloc zR _
 have hB1 := hB.below hbB1;have kR : w1.heap[w.heap.size + 1]? = some (.cells #[.int .i64 0, .int .i64 0, .slice none 0 0, .slice none 0 0] 27 (0, 0)) := by
  have := heap_alloc_new wB (.cells #[.int .i64 0, .int .i64 0, .slice none 0 0, .slice none 0 0] 27);rw [zB] at this;rw [hw1]; exact this
 have hkl : w.heap.size + 1 < w1.heap.size := (Array.getElem?_eq_some_iff.1 kR).1;have q1 := hide (hB1.sys.valid c d (he.below hB1.bel zR));have hPW := hide (fun (W : World) (hW : Below w.heap.size w W) => hP.below hW (.inr zR));have heW := hide (fun (W : World) (hW : Below w.heap.size w W) => he.below hW zR);have htH := hide ht;have b0 := hB1.box.c0;have b1 := hB1.box.c1;have b2 := hB1.box.c2;have b3 := hB1.box.c3;replace hB1 := hide hB1;replace kR := hide kR;clear h hB hbB1 he hP ht;go_enter Tryz.func38, Tryz.ntmps38;go_upto_region 1 with fail;rw [show ((w.alloc (.cells #[.int .i64 (N : Int), .int .i64 (ini : Int), .slice A n c, .slice B m d] 27)).alloc (.cells #[.int .i64 0, .int .i64 0, .slice none 0 0, .slice none 0 0] 27)) = w1 from by rw [hw1, hwB]];replace hw1 := hide hw1;replace hwB := hide hwB;go_wp2_with fail;refine q1.out.mono ?_;rintro e w2 ⟨rfl, hb2⟩;have hB2 := hide (hB1.out.below hb2);have kR2 := hide ((hb2.block _ hkl).trans kR.out);have hz12 := hb2.size;have q2 := hide (areActions_calls P q cp ns w2 _ _ (hPW.out w2 hB2.out.bel) hq htH.out);clear q1 b0 b1 b2 b3 hb2;go_wp2_with fail;refine q2.out.mono ?_;rintro e w3 ⟨rfl, hb3⟩;have hB3 := hide (hB2.out.below hb3);have kR3 := hide ((hb3.block _ (by omega)).trans kR2.out);have hz3 := hb3.size;have b0 := hB3.out.box.c0;have b1 := hB3.out.box.c1;have b2 := hB3.out.box.c2;have b3 := hB3.out.box.c3;have q3 := hide (hideLabels_calls hB3.out.sys c d (heW.out w3 hB3.out.bel) P q cp ns _ _ (hPW.out w3 hB3.out.bel) hq);have hz2 := hB3.out.bel.size;clear q2 hb3 hB2 kR2;go_wp2_with fail;refine q3.out.mono ?_;rintro e w4 ⟨A2, n2, c2, A3, n3, c3, rfl, hS, hE, hb⟩;have h8 : w4.heap[w.heap.size + 1]? = _ := (hb.block _ (by omega)).trans kR3.out;have a0 : w4.cell? ⟨w.heap.size + 1, 0, none⟩ = some (.int .i64 0) := cR 0 h8;have a1 : w4.cell? ⟨w.heap.size + 1, 1, none⟩ = some (.int .i64 0) := cR 1 h8;have a2 : w4.cell? ⟨w.heap.size + 1, 2, none⟩ = some (.slice none 0 0) := cR 2 h8;have a3 : w4.cell? ⟨w.heap.size + 1, 3, none⟩ = some (.slice none 0 0) := cR 3 h8;have y0 : w4.frozen? ⟨w.heap.size + 1, 0, none⟩ = false := frozen_of_row _ _ 0 _ _ h8;have y1 : w4.frozen? ⟨w.heap.size + 1, 1, none⟩ = false := frozen_of_row _ _ 1 _ _ h8;have y2 : w4.frozen? ⟨w.heap.size + 1, 2, none⟩ = false := frozen_of_row _ _ 2 _ _ h8;have y3 : w4.frozen? ⟨w.heap.size + 1, 3, none⟩ = false := frozen_of_row _ _ 3 _ _ h8;have hbF := hide (hB3.out.bel.trans (hb.mono hz2));have hz4 := hb.size;replace hS := hide hS;replace hE := hide hE;replace hb := hide hb;replace h8 := hide h8;clear q3 b0 b1 b2 b3;go_wp2_with fail
 (try simp only [Exit.inBlock, Exit.then])
 refine bodyPost_ret_by (v := .tuple #[.agg #[.int .i64 (N : Int), .int .i64 (ini : Int), .slice A2 n2 c2, .slice A3 n3 c3], .int .i64 0]) ?_ rfl ?_
 focus
  rw [results_cs rfl];go_simp
 have hZs := put4_size w4 (w.heap.size + 1) (.int .i64 (N : Int)) (.int .i64 (ini : Int)) (.slice A2 n2 c2) (.slice A3 n3 c3);have hf : ∀ q, q ≠ w.heap.size + 1 → (put4 w4 (w.heap.size + 1) (.int .i64 (N : Int)) (.int .i64 (ini : Int)) (.slice A2 n2 c2) (.slice A3 n3 c3)).heap[q]? = w4.heap[q]? := fun q hq => put4_other _ _ _ _ _ _ hq
 refine ⟨A2, n2, c2, A3, n3, c3, rfl, ?_⟩
 change HidR w (put4 w4 (w.heap.size + 1) (.int .i64 (N : Int)) (.int .i64 (ini : Int)) (.slice A2 n2 c2) (.slice A3 n3 c3)) _ _ _ _ _ _ _ _ _
 refine ⟨?_, ?_, ?_⟩
 ·exact (Sl.keep hS.out (Nat.le_of_eq hZs.symm) fun q h1 h2 h3 => hf q (by omega)).more (by omega) (Nat.le_of_eq hZs.symm)
 ·exact (Sl.keep hE.out (Nat.le_of_eq hZs.symm) fun q h1 h2 h3 => hf q (by omega)).more (by omega) (Nat.le_of_eq hZs.symm)
 ·exact ⟨hbF.out.os, hbF.out.tape, hbF.out.output, Nat.le_trans hbF.out.size (Nat.le_of_eq hZs.symm), fun q hq => (hf q (by omega)).trans (hbF.out.block q hq)⟩
end
open Go.Sort
def DrawnT (K M S : Nat) (w : World) (e : Ending) (w' : World) : Prop := ∃ (st ini : Nat) (A : Option Addr) (n c : Nat) (B : Option Addr) (m d : Nat) (ls : List ByteArray) (es : List Ed),
 e = .returned (.agg #[.int .i64 (st : Int), .int .i64 (ini : Int), .slice A n c, .slice B m d]) ∧ SlS w' w.heap.size w'.heap.size A n ls ∧ SlE w' w.heap.size w'.heap.size B m es ∧ ltsV ((st : Int), (ini : Int), ls, es) = true ∧ st ≤ S ∧ m ≤ M ∧ n ≤ K ∧ NamD ls ∧ Below w.heap.size w w'
theorem namD_joi {ts : List ByteArray} (h : NamD ts) : NamD (joiF ts) := fun x hx => ((joi_mem_iff ts x).1 hx).elim .inl (h x)
theorem namD_labs {ts : List ByteArray} (h : NamD ts) : ∀ x, x ∈ ts → x = tauB ∨ labS x = true := fun x hx => (h x hx).imp id fun h => (nm5_lab x h).1
theorem namD_tot : ∀ {l : List ByteArray}, NamD l → totS l ≤ 7 * l.length
 | [], _ => by simp [totS]
 | x :: l, hx => by
  have h1 := namD_tot (l := l) fun y hy => hx y (List.mem_cons_of_mem _ hy)
  have h2 : x.size ≤ 6 := by
   rcases hx x (List.mem_cons_self ..) with e | e
   ·rw [e]; decide
   ·unfold nm5 at e
    simp only [List.mem_cons, List.mem_nil_iff, or_false] at e
    rcases e with rfl | rfl | rfl | rfl | rfl <;> decide
  unfold totS at h1 ⊢;simp only [List.map_cons, List.sum_cons, List.length_cons];omega
theorem drawnT_put {K M S : Nat} {w w5 w6 : World} {st ini : Nat} {A : Option Addr} {n c : Nat} {B : Option Addr} {m d : Nat} {ls : List ByteArray} {es : List Ed} (hA : SlS w6 w5.heap.size w6.heap.size A n ls) (hB : SlE w6 w5.heap.size w6.heap.size B m es)
  (hv : ltsV ((st : Int), (ini : Int), ls, es) = true) (h1 : st ≤ S) (h2 : m ≤ M) (h3 : n ≤ K) (hn : NamD ls) (hlt : w.heap.size < w5.heap.size) (hb : Below w.heap.size w w6) (v0 v1 v2 v3 : Value) :
  DrawnT K M S w (.returned (.agg #[.int .i64 (st : Int), .int .i64 (ini : Int), .slice A n c, .slice B m d])) (put4 w6 w.heap.size v0 v1 v2 v3) := by
 have hZs := put4_size w6 w.heap.size v0 v1 v2 v3;have hz := hb.size;refine ⟨st, ini, A, n, c, B, m, d, ls, es, rfl, ?_, ?_, hv, h1, h2, h3, hn, ?_⟩
 ·exact (Sl.keep hA (by omega) fun q h1 h2 h3 => put4_other _ _ _ _ _ _ (by omega)).more (by omega) (by omega)
 ·exact (Sl.keep hB (by omega) fun q h1 h2 h3 => put4_other _ _ _ _ _ _ (by omega)).more (by omega) (by omega)
 ·exact ⟨hb.os, hb.tape, hb.output, by omega, fun q hq => (put4_other _ _ _ _ _ _ (by omega)).trans (hb.block q hq)⟩
theorem DrawnT.mono {K M S K' M' S' : Nat} {w w' : World} {e : Ending} (h : DrawnT K M S w e w') (h1 : K ≤ K') (h2 : M ≤ M') (h3 : S ≤ S') : DrawnT K' M' S' w e w' := by
 obtain ⟨st, ini, A, n, c, B, m, d, ls, es, e1, hA, hB, hv, g1, g2, g3, hn, hb⟩ := h;exact ⟨st, ini, A, n, c, B, m, d, ls, es, e1, hA, hB, hv, Nat.le_trans g1 h3, Nat.le_trans g2 h2, Nat.le_trans g3 h1, hn, hb⟩
theorem DrawnT.sys {K M S : Nat} {w w' : World} {e : Ending} (h : DrawnT K M S w e w') (hK : K ≤ 1000) : ∃ (st ini : Nat) (A : Option Addr) (n c : Nat) (B : Option Addr) (m d : Nat) (ls : List ByteArray) (es : List Ed),
  e = .returned (.agg #[.int .i64 (st : Int), .int .i64 (ini : Int), .slice A n c, .slice B m d]) ∧ SysA w' st ini A n B m ls es ∧ SlS w' w.heap.size w'.heap.size A n ls ∧ SlE w' w.heap.size w'.heap.size B m es ∧ st ≤ S ∧ m ≤ M ∧ n ≤ K ∧ NamD ls ∧ Below w.heap.size w w' := by
 obtain ⟨st, ini, A, n, c, B, m, d, ls, es, rfl, hA, hB, hv, h1, h2, h3, hn, hb⟩ := h;have h4 := namD_tot hn;have h5 := hA.len;exact ⟨st, ini, A, n, c, B, m, d, ls, es, rfl, ⟨hA.here', hB.here', hv, by omega⟩, hA, hB, h1, h2, h3, hn, hb⟩
def blkC (p : List Int) : Nat := p.foldl (fun a x => max a (x + 1).toNat) 0
theorem blkC_step {p : List Int} {k : Nat} {x : Int} (hx : p[k]? = some x) : blkC (p.take (k + 1)) = max (blkC (p.take k)) (x + 1).toNat := by
 unfold blkC;rw [List.take_add_one, hx, List.foldl_append]
 rfl
theorem blkC_ge (p : List Int) : ∀ (a : Nat), a ≤ p.foldl (fun a x => max a (x + 1).toNat) a ∧ ∀ x ∈ p, (x + 1).toNat ≤ p.foldl (fun a x => max a (x + 1).toNat) a := by
 induction p with
 | nil => intro a; exact ⟨zR, fun x hx => absurd hx List.not_mem_nil⟩
 | cons y p ih =>
  intro a;obtain ⟨h1, h2⟩ := ih (max a (y + 1).toNat);simp only [List.foldl_cons];refine ⟨by omega, fun x hx => ?_⟩
  rcases List.mem_cons.1 hx with rfl | hx
  ·omega
  ·exact h2 x hx
theorem blkC_lt {p : List Int} (hp : ∀ x, x ∈ p → 0 ≤ x) : ∀ x, x ∈ p → x < (blkC p : Int) := fun x hx => by
 have h1 := (blkC_ge p 0).2 x hx;have h2 := hp x hx;unfold blkC;omega
theorem blkC_up {K : Nat} (p : List Int) (hp : ∀ x, x ∈ p → x < (K : Int)) : ∀ a : Nat, a ≤ K → p.foldl (fun a x => max a (x + 1).toNat) a ≤ K := by
 induction p with
 | nil => intro a h; exact h
 | cons y p ih =>
  intro a h;simp only [List.foldl_cons];have := hp y (List.mem_cons_self ..);exact ih (fun x hx => hp x (List.mem_cons_of_mem _ hx)) _ (by omega)
theorem blkC_le {p : List Int} {K : Nat} (hp : ∀ x, x ∈ p → x < (K : Int)) : blkC p ≤ K := blkC_up p hp 0 (Nat.zero_le _)
theorem l00Max_calls (a b : Nat) (w : World) : Calls Tryz.prog 305 #[.int .i64 (a : Int), .int .i64 (b : Int)] w fun e w' => e = .returned (.int .i64 ((max a b : Nat) : Int)) ∧ w = w' := by
 by_cases h : b < a
 ·have g : (b : Int) < (a : Int) := by omega
  go_enter Tryz.func305, Tryz.ntmps305;go_wp2_with fail;go_ret;exact ⟨by rw [Nat.max_eq_left (by omega)]; rfl, rfl⟩
 ·have g : ¬ (b : Int) < (a : Int) := by omega
  go_enter Tryz.func305, Tryz.ntmps305;go_wp2_with fail;go_ret;exact ⟨by rw [Nat.max_eq_right (by omega)]; rfl, rfl⟩
theorem l13Blocks_calls (A : Option Addr) (n c : Nat) (p : List Int) (w : World) (lo hi : Nat) (h : SlI w lo hi A n p) (hn : n ≤ 1048576) (hp : ∀ x, x ∈ p → 0 ≤ x ∧ x ≤ 1000) :
  Calls Tryz.prog 248 #[.slice A n c] w fun e w' => e = .returned (.int .i64 ((blkC p : Nat) : Int)) ∧ w = w' := by
 have hlen := hide h.len;replace hp := hide hp;go_enter Tryz.func248, Tryz.ntmps248;go_wp2_with fail
 go_loop [3, 4] (fun v3 v4 => ∃ k : Nat, k ≤ n ∧ v4 = .int .i64 (k : Nat) ∧ v3 = .int .i64 ((blkC (p.take k) : Nat) : Int)) (fun _ v4 => n - (intOf v4).toNat)
 case atStart => exact ⟨0, Nat.zero_le _, rfl, rfl⟩
 case round =>
  obtain ⟨k, hk, rfl, rfl⟩ := hrel
  by_cases hlt : k < n
  ·obtain ⟨b, off, x, rfl, g1, g2, g3, hx, c0, -⟩ := SlI.get h hlt
   have hb := hp.out _ (List.mem_of_getElem? hx);obtain ⟨x, rfl⟩ : ∃ j : Nat, x = (j : Int) := ⟨x.toNat, by omega⟩;have k0 : (0 : Int) ≤ (k : Int) := by omega
   have k1 : (k : Int) < (n : Int) := by omega
   have hs : Hid (blkC (p.take (k + 1)) = max (blkC (p.take k)) (x + 1)) := (blkC_step hx).trans (by rw [show ((x : Int) + 1).toNat = x + 1 by omega]);have q : Calls Tryz.prog 305 #[.int .i64 ((blkC (p.take k) : Nat) : Int), .int .i64 ((x : Int) + 1)] w fun e w' => e = .returned (.int .i64 ((max (blkC (p.take k)) (x + 1) : Nat) : Int)) ∧ w = w' := l00Max_calls (blkC (p.take k)) (x + 1) w
   replace q := hide q;clear h hx;go_wp2_with (first | (go_at_call 305; (with_reducible refine q.out.mono ?_); rintro e w' ⟨rfl, rfl⟩))
   go_round
   case rel => exact ⟨k + 1, by omega, by go_num, by rw [hs.out]⟩
   case measure => simp [intOf]; omega
  ·obtain rfl : k = n := by omega
   have hy : p.take k = p := List.take_of_length_le (by rw [hlen.out]; exact zR);clear h;rw [hy];go_wp2_with fail;go_ret;exact ⟨rfl, rfl⟩
theorem l13QuotientP_calls {w : World} {N ini : Nat} {A : Option Addr} {n : Nat} {B : Option Addr} {m : Nat} {ls : List ByteArray} {es : List Ed} (h : SysA w N ini A n B m ls es) (c d bx : Nat) (hbx : LtsBox w bx (N : Int) (ini : Int) A n c B m d) (P : Option Addr) (cP : Nat) (p : List Int) (hP : SlI w 0 w.heap.size P N p) (hp : ∀ x, x ∈ p → 0 ≤ x ∧ x < (N : Int)) (hnam : NamD ls) (hn8 : n ≤ 8) (hm8 : m ≤ 200) :
  Calls Tryz.prog 173 #[.pointer (some ⟨bx, 0, none⟩), .slice P N cP] w (DrawnT 9 (m + N) N w) := by
 have hEe := hide elem_edge;have hmn := h.many;obtain ⟨⟨hN1, hN2⟩, hini⟩ := h.bounds;have hthr := hide h.three;have hpR := hide hp;have hb0 := (Below.refl w.heap.size w).alloc zR (.cells #[.int .i64 0, .int .i64 0, .slice none 0 0, .slice none 0 0] 27);have hr0 : LtsBox (w.alloc (.cells #[.int .i64 0, .int .i64 0, .slice none 0 0, .slice none 0 0] 27)) w.heap.size 0 0 none 0 0 none 0 0 := heap_alloc_new w _;obtain ⟨w1, hw1⟩ : ∃ w1, w1 = w.alloc (.cells #[.int .i64 0, .int .i64 0, .slice none 0 0, .slice none 0 0] 27) := ⟨_, rfl⟩;rw [← hw1] at hb0 hr0;have hz1 : w1.heap.size = w.heap.size + 1 := by rw [hw1, World.size_alloc]
 have hb1 := hide hb0;have hr1 := hide hr0;have hAll : ∀ wx, Below w.heap.size w wx → SysA wx N ini A n B m ls es ∧ LtsBox wx bx (N : Int) (ini : Int) A n c B m d ∧ SlI wx 0 w.heap.size P N p := fun wx hx => ⟨h.below hx zR, hbx.below hx hbx.lt, hP.below hx (.inl zR)⟩
 replace hAll := hide hAll;have hnamh := hide hnam;have hBle := blkC_le (p := p) (K := N) (fun x hx => (hpR.out x hx).2);have hO0 : Hid (Own 3 ev (w1.alloc (.cells #[] 84)) w1.heap.size 84 (some ⟨w1.heap.size, 0, none⟩) 0 0 ([] : List Ed)) := Own.made (α := Ed) (size := 3) (f := ev) w1 84 zR;have hbO0 := hide ((Below.refl w1.heap.size w1).alloc zR (.cells #[] 84));obtain ⟨hz1a, hz1b⟩ : w1.heap.size ≤ w.heap.size + 1 ∧ w.heap.size + 1 ≤ w1.heap.size := ⟨by omega, by omega⟩;clear h hbx hP hb0 hr0 hz1;go_enter Tryz.func173, Tryz.ntmps173;go_upto_region 1 with fail;rw [← hw1];replace hw1 := hide hw1;go_wp2_with fail
 go_loopw [5, 6] (fun v5 v6 wr => ∃ (k KK cc : Nat) (E : Option Addr) (es1 : List Ed), k ≤ m ∧ v6 = .int .i64 (k : Nat) ∧ v5 = .slice E KK cc ∧ KK ≤ k ∧ Hid (Own 3 ev wr w1.heap.size 84 E KK cc es1) ∧ Hid (EdD (blkC p) n es1) ∧ Hid (Below w1.heap.size w1 wr)) (fun _ v _ => m - (intOf v).toNat)
 case atStart => exact ⟨0, 0, _, _, [], Nat.zero_le _, rfl, rfl, Nat.zero_le _, hO0.out, EdD.start _ _, hbO0.out⟩
 case round =>
  clear hO0 hbO0;obtain ⟨k, KK, cc, E, es1, hk, rfl, rfl, hKK, hO, hEd, hbr⟩ := hrel;obtain ⟨hSy, hBx, hPw0⟩ := hAll.out wr (hb1.out.trans (hbr.out.mono hb1.out.size));have b3 := hBx.c3
  by_cases hlt : k < m
  ·clear hPw0 hBx
   have k0 : (0 : Int) ≤ (k : Int) := by omega
   have k1 : (k : Int) < (m : Int) := by omega
   obtain ⟨gB, oB, f, l, t, rfl, -, -, hgB, hx, x0, x1, x2, -⟩ := SlE.get hSy.se hlt;have hin := hthr.out _ (List.mem_of_getElem? hx)
   (try dsimp only at hin)
   obtain ⟨⟨hf0, hf1⟩, ⟨hl0, hl1⟩, ht0, ht1⟩ := hin;obtain ⟨f, rfl⟩ : ∃ k : Nat, f = (k : Int) := ⟨f.toNat, by omega⟩;obtain ⟨t, rfl⟩ : ∃ k : Nat, t = (k : Int) := ⟨t.toNat, by omega⟩;have hfN : f < N := by omega
   have htN : t < N := by omega
   obtain ⟨wE, hwE⟩ : ∃ wE, wE = wr.alloc (.cells #[.int .i64 (f : Int), .int .i64 l, .int .i64 (t : Int)] 84) := ⟨_, rfl⟩;obtain ⟨bE, hbE0⟩ : ∃ bE, bE = wr.heap.size := ⟨_, rfl⟩;have hbE : Below wr.heap.size wr wE := by rw [hwE]; exact bR.alloc zR _
   have kE : wE.heap[bE]? = some (.cells #[.int .i64 (f : Int), .int .i64 l, .int .i64 (t : Int)] 84 (0, 0)) := by rw [hwE, hbE0]; exact heap_alloc_new wr _
   have hbW := hide (hbr.out.trans (hbE.mono hbr.out.size));have hbW0 := hide (hb1.out.trans (hbW.out.mono hb1.out.size));have hPE := (hAll.out wE hbW0.out).2.2;obtain ⟨gP, oP, pf, e1, -, hgP9, hgP, hpf, cf, -⟩ := SlI.get hPE hfN;subst e1;obtain ⟨gP2, oP2, pt, e2, -, -, -, hpt, ct, -⟩ := SlI.get hPE htN;cases e2;have hpfR := hpR.out _ (List.mem_of_getElem? hpf);have hptR := hpR.out _ (List.mem_of_getElem? hpt);have hpfB := blkC_lt (fun x hx => (hpR.out x hx).1) _ (List.mem_of_getElem? hpf);have hptB := blkC_lt (fun x hx => (hpR.out x hx).1) _ (List.mem_of_getElem? hpt);have f0' : (0 : Int) ≤ (f : Int) := by omega
   have f1' : (f : Int) < (N : Int) := by omega
   have t0' : (0 : Int) ≤ (t : Int) := by omega
   have t1' : (t : Int) < (N : Int) := by omega
   have hSS : Hid (∀ wx : World, wx.heap[bE]? = some (.cells #[.int .i64 (f : Int), .int .i64 l, .int .i64 (t : Int)] 84 (0, 0)) → Below w.heap.size w wx → wx.cell? ⟨bE, 0, none⟩ = some (.int .i64 (f : Int)) ∧ wx.cell? ⟨bE, 1, none⟩ = some (.int .i64 l) ∧ wx.cell? ⟨bE, 2, none⟩ = some (.int .i64 (t : Int)) ∧ wx.cell? ⟨gP, oP + f, none⟩ = some (.int .i64 pf) ∧ wx.cell? ⟨gP, oP + t, none⟩ = some (.int .i64 pt)) := fun wx hk hx =>
    ⟨cR 0 hk, cR 1 hk, cR 2 hk, ((hx.cell (p := ⟨gP, oP + f, none⟩) hgP9).trans ((hbW0.out.cell (p := ⟨gP, oP + f, none⟩) hgP9).symm)).trans cf, ((hx.cell (p := ⟨gP, oP + t, none⟩) hgP9).trans ((hbW0.out.cell (p := ⟨gP, oP + t, none⟩) hgP9).symm)).trans ct⟩
   have hOE := hO.out.below hbE zR;have hzr := hbr.out.size;have hnr := hide (fun (b : Nat) (hq : bE ≤ b) => (show some b ≠ (Value.slice E KK cc).ownBlock from fun e => by have := (hO.out.lt b e.symm).2; omega));have hbEh := hide hbE;have hzE : bE < wE.heap.size := (Array.getElem?_eq_some_iff.1 kE).1;replace kE := hide kE;replace hpf := hide hpf;replace hpt := hide hpt;replace hx := hide hx;clear hPE hbE;obtain ⟨wV, hwV⟩ : ∃ wV, wV = wE := ⟨_, rfl⟩;have hbV := hide hbW.out;have hOV := hOE;have kV := hide kE.out;rw [← hwV] at hbV hOV kV;obtain ⟨wD, hwD⟩ : ∃ wD, wD = wV.drew := ⟨_, rfl⟩;have hbD : Below w1.heap.size w1 wD := by rw [hwD]; exact hbV.out.drew
   have hOD : Own 3 ev wD w1.heap.size 84 E KK cc es1 := by rw [hwD]; exact hOV.keep fun _ _ => rfl
   have hOa := hide (hOD.alloc (.cells #[.int .i64 pf, .int .i64 l, .int .i64 pt] 84));have hlit := hide (Sl.lit1' (f := ev) wD 84 (pf, (l : Int), pt) #[.int .i64 pf, .int .i64 l, .int .i64 pt] rfl 3 _ rfl);have hbA := hide (hbD.alloc hbD.size (.cells #[.int .i64 pf, .int .i64 l, .int .i64 pt] 84));have hrow := hide (fun q (e : (Value.slice E KK cc).ownBlock = some q) => (hOD.lt q e).1);have hza : w1.heap.size ≤ (wD.alloc (.cells #[.int .i64 pf, .int .i64 l, .int .i64 pt] 84)).heap.size := hbA.out.size;have hsza : (KK + 1) * 24 ≤ 140737488355328 := by omega
   have hEd2 := hide (hEd.out.app (f := pf) (l := (l : Int)) (t := pt) (by omega) (by omega) (by omega));replace hbD := hide hbD;replace hwD := hide hwD;have kA : Hid ((wD.alloc (.cells #[.int .i64 pf, .int .i64 l, .int .i64 pt] 84)).heap[bE]? = some (.cells #[.int .i64 (f : Int), .int .i64 l, .int .i64 (t : Int)] 84 (0, 0))) := (Below.heap_alloc _ _ _ (by rw [hwD.out]; exact (Array.getElem?_eq_some_iff.1 kV.out).1)).trans (by rw [hwD.out]; exact kV.out);have kD : Hid (wD.heap[bE]? = some (.cells #[.int .i64 (f : Int), .int .i64 l, .int .i64 (t : Int)] 84 (0, 0))) := by show _ = _; rw [hwD.out]; exact kV.out
   have hbD0 := hide (hb1.out.trans (hbD.out.mono hb1.out.size));have hbA0 := hide (hb1.out.trans (hbA.out.mono hb1.out.size));clear cf ct hOE hOV hOD;go_upto_region 6 with fail;rw [← hwE, ← hbE0];clear x0 x1 x2 b3 hSy;replace hwE := hide hwE;replace hbE0 := hide hbE0;rw [← hwV];refine lateT_begin (S := fun w' => w'.cell? ⟨bE, 0, none⟩ = some (.int .i64 (f : Int)) ∧ w'.cell? ⟨bE, 1, none⟩ = some (.int .i64 l) ∧ w'.cell? ⟨bE, 2, none⟩ = some (.int .i64 (t : Int)) ∧ w'.cell? ⟨gP, oP + f, none⟩ = some (.int .i64 pf) ∧ w'.cell? ⟨gP, oP + t, none⟩ = some (.int .i64 pt)) (st := 16) (by kernel_rfl) ?_;rw [← show wD = _ from hwD.out];have hS0 : (fun w' : World => w'.cell? ⟨bE, 0, none⟩ = some (.int .i64 (f : Int)) ∧ w'.cell? ⟨bE, 1, none⟩ = some (.int .i64 l) ∧ w'.cell? ⟨bE, 2, none⟩ = some (.int .i64 (t : Int)) ∧ w'.cell? ⟨gP, oP + f, none⟩ = some (.int .i64 pf) ∧ w'.cell? ⟨gP, oP + t, none⟩ = some (.int .i64 pt)) wD := hSS.out wD kD.out hbD0.out;refine tkB 0 [16] hS0 ?_;refine tkB 1 [16] hS0 ?_;refine tkB 2 [16] hS0 ?_;refine tkB 3 [16] hS0 ?_;refine tkB 4 [16] hS0 ?_;refine tkB 5 [16] hS0 ?_;refine tkB 6 [16] hS0 ?_;refine tkB 7 [16] hS0 ?_;refine tkB 8 [16] hS0 ?_;refine tkB 9 [16] hS0 ?_;refine tkB 10 [16] hS0 ?_;refine tkB 11 [16] hS0 ?_;refine tkB 12 [16] hS0 ?_;refine tkB 13 [16] hS0 ?_;refine lS 14 fun K hK => ?_
   go_simp;refine kP hK (fun _ => hSS.out _ kA.out hbA0.out) ?_
   clear hK K;refine lS 15 fun K hK => ?_
   refine step_appL (m := 1) (d := 1) (by rfl) (.tmp 25) (.tmp 39) (by rfl) hEe.out flat_ev (by go_simp) hOa.out (by go_simp) hlit.out hsza hza ?_;intro A6 c6 w7 hown7 hgr7 hb7 hat7;have k7 := hide ((hgr7.block bE (Array.getElem?_eq_some_iff.1 kA.out).1 (hnr.out bE zR)).trans kA.out);have hbr7 := hide (hbA.out.grown hgr7 hbA.out.size (fun q e => hrow.out q e));have hb7h := hide (hb1.out.trans (hbr7.out.mono hb1.out.size));replace hown7 := hide hown7;clear hgr7 hb7 hat7;refine kP hK (fun _ => hSS.out w7 k7.out hb7h.out) ?_;clear hK K;refine lS 16 fun K hK => ?_
   go_simp;refine kP hK nH ?_
   clear hK K;refine lateT_done (by kernel_rfl) ?_ _;go_wp2_with fail;go_roundw
   case rel => exact ⟨k + 1, KK + 1, c6, A6, _, by omega, by go_num, rfl, by omega, hown7.out, hEd2.out, hbr7.out⟩
   case measure => simp [intOf]; omega
  ·obtain rfl : k = m := by omega
   have k1 : ¬ (k : Int) < (k : Int) := by omega
   clear hPw0 hSy;go_upto_region 7 with fail;clear b3 hBx;have hini0 : (0 : Int) ≤ (ini : Int) := by omega
   have hini1 : (ini : Int) < (N : Int) := by omega
   have hb := hide (hb1.out.trans (hbr.out.mono hb1.out.size));have hPw := (hAll.out wr hb.out).2.2;obtain ⟨gI, oI, pi, e1, -, hgI9, hgI, hpi, ci, -⟩ := SlI.get hPw hini;subst e1;have hpm := List.mem_of_getElem? hpi;have hpiR := hpR.out _ hpm;obtain ⟨pi, rfl⟩ : ∃ k : Nat, pi = (k : Int) := ⟨pi.toNat, by omega⟩;have hpiB := blkC_lt (fun x hx => (hpR.out x hx).1) _ hpm;have hOl := hO.out.len;have hzr := hb.out.size;have hzs := hbr.out.size;have hSS : Hid (∀ wx : World, Below wr.heap.size wr wx → wx.cell? ⟨bx, 1, none⟩ = some (.int .i64 (ini : Int)) ∧ wx.cell? ⟨bx, 2, none⟩ = some (.slice A n c) ∧ wx.cell? ⟨gI, oI + ini, none⟩ = some (.int .i64 (pi : Int))) := fun wx hx => by
    have hy := hAll.out wx (hb.out.trans (hx.mono hb.out.size));exact ⟨hy.2.1.c1, hy.2.1.c2, (hx.cell (p := ⟨gI, oI + ini, none⟩) hgI).trans ci⟩
   have qB := hide (fun (wx : World) (hx : Below wr.heap.size wr wx) => l13Blocks_calls (some ⟨gI, oI, none⟩) N cP p wx 0 w.heap.size (hAll.out wx (hb.out.trans (hx.mono hb.out.size))).2.2 (by omega) (fun x hx => by have := hpR.out x hx; omega));have qM := hide (fun (wx : World) (hx : Below wr.heap.size wr wx) => l11Make_calls ((blkC p : Nat) : Int) (pi : Int) A n c ls E KK cc es1 wx ((hAll.out wx (hb.out.trans (hx.mono hb.out.size))).1.ss) (((hO.out.below hx zR).sl flat_ev).more (Nat.zero_le _) zR) (fun e he => (hEd.out e he).2.1) (by omega) (by omega));obtain ⟨wD, hwD⟩ : ∃ wD, wD = wr.drew := ⟨_, rfl⟩;have hDD : Hid (Below wr.heap.size wr wD) := by show Below _ _ _; rw [hwD]; exact bR.drew
   replace hwD := hide hwD;replace hpi := hide hpi;clear ci hpm hgI9;refine lateT_begin (S := fun w' => w'.cell? ⟨bx, 1, none⟩ = some (.int .i64 (ini : Int)) ∧ w'.cell? ⟨bx, 2, none⟩ = some (.slice A n c) ∧ w'.cell? ⟨gI, oI + ini, none⟩ = some (.int .i64 (pi : Int))) (st := 15) (by kernel_rfl) ?_;rw [← show wD = _ from hwD.out];have hS0 : (fun w' : World => w'.cell? ⟨bx, 1, none⟩ = some (.int .i64 (ini : Int)) ∧ w'.cell? ⟨bx, 2, none⟩ = some (.slice A n c) ∧ w'.cell? ⟨gI, oI + ini, none⟩ = some (.int .i64 (pi : Int))) wD := hSS.out wD hDD.out;refine tkB 0 [15] hS0 ?_;refine tkB 2 [15] hS0 ?_;refine tkB 3 [15] hS0 ?_;refine tkB 4 [15] hS0 ?_;refine tkB 5 [15] hS0 ?_;refine tkB 6 [15] hS0 ?_;refine tkB 7 [15] hS0 ?_;refine tkB 8 [15] hS0 ?_;refine tkB 9 [15] hS0 ?_;refine tkB 10 [15] hS0 ?_;refine tkB 11 [15] hS0 ?_;refine tkB 12 [15] hS0 ?_;refine tkB 13 [15] hS0 ?_;refine lS 1 fun K hK => ?_
   go_simp;go_at_call 248
   (with_reducible refine (qB.out wD hDD.out).mono ?_)
   rintro e w6 ⟨rfl, rfl⟩
   (try go_wp2_with fail)
   refine kP hK (fun _ => hSS.out _ hDD.out) ?_;clear hK K;refine lS 14 fun K hK => ?_
   go_simp;go_at_call 94
   (with_reducible refine (qM.out _ hDD.out).mono ?_)
   rintro e w7 ⟨A2, n2, c2, B2, m2, d2, es3, rfl, hA2, hB2, hM, hb7⟩;have hDD7 := hide (hDD.out.trans (hb7.mono hDD.out.size));have hb07 := hide (hb.out.trans (hDD7.out.mono hb.out.size));have h8 : LtsBox w7 w.heap.size 0 0 none 0 0 none 0 0 := hr1.out.below (hbr.out.trans (hDD7.out.mono hbr.out.size)) (by omega);have a0 := h8.c0;have z0 := h8.f0;have a1 := h8.c1;have z1 := h8.f1;have a2 := h8.c2;have z2 := h8.f2;have a3 := h8.c3;have z3 := h8.f3;replace hA2 := hide hA2;replace hB2 := hide hB2;replace hM := hide hM;have hz7 := hb7.size;have hzD := hDD.out.size;clear hb7 h8
   (try go_wp2_with fail)
   refine kP hK (fun _ => hSS.out w7 hDD7.out) ?_;clear hK K;refine lS 15 fun K hK => ?_
   go_simp;refine kP hK nH ?_
   clear hK K;refine lateT_done (by kernel_rfl) ?_ _;go_wp2_with fail
   (try simp only [Exit.inBlock, Exit.then])
   refine bodyPost_ret_by (v := .agg #[.int .i64 ((blkC p : Nat) : Int), .int .i64 (pi : Int), .slice A2 n2 c2, .slice B2 m2 d2]) ?_ rfl ?_
   focus
    rw [results_cell1 rfl];go_simp
   change DrawnT 9 (_ + N) N w _ (put4 w7 w.heap.size _ _ _ _)
   have hlA := hA2.out.len;have hlB := hB2.out.len;have hlj := joi_len ls;have hml := hM.out.2.1;have hnam2 := namD_joi hnamh.out;have hv : ltsV (((blkC p : Nat) : Int), (pi : Int), joiF ls, es3) = true := made_valid (by omega) (by omega) (namD_labs hnamh.out) (by omega) (by omega) (fun e he => ⟨(hEd.out e he).1, (hEd.out e he).2.2⟩) hM.out;exact drawnT_put hA2.out hB2.out hv (by omega) (by omega) (by omega) hnam2 (by omega) hb07.out _ _ _ _
end Go.Proofs.YtnhomkmfbngmgaaGreatDoor
