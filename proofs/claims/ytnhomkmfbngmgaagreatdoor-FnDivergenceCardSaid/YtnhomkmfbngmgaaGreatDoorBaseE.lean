/-
  Lemmas that the law of this claim leans on. Conditions: sizes.
-/
import Derived.Test.YtnhomkmfbngmgaaGreatDoorBaseA
import Derived.Test.YtnhomkmfbngmgaaGreatDoorBaseB
import Derived.Test.YtnhomkmfbngmgaaGreatDoorBaseC
import Derived.Test.YtnhomkmfbngmgaaGreatDoorBaseD
import Derived.Deep.DeepCutAuto
import Derived.Outline
import Derived.WalkSpells
import Derived.Laws.CopyOwn
import Derived.Laws.Bits64b
import Derived.StillTailTactics
import Derived.Deep.RegionLaw
import Derived.Deep.LoopGhost
import Derived.ArgAppend
set_option maxHeartbeats 3200000
set_option maxRecDepth 100000
set_option linter.unusedSimpArgs false
set_option linter.unusedVariables false
namespace Go.Proofs.YtnhomkmfbngmgaaGreatDoor
open Go.ChangeShapes Go.WideShapes Go.ChangeAt Go.RowKit Go.Sort
structure JoiI (out : List ByteArray) (l : List ByteArray) : Prop where
 head : out[0]? = some tauB
 rise : (out.map toL).Pairwise fun x y => ltL x y = true
 mem : ∀ x, x ∈ out ↔ x = tauB ∨ x ∈ l
theorem JoiI.start : JoiI [tauB] [] := ⟨rfl, by simp, fun x => by simp⟩
theorem JoiI.old {out l : List ByteArray} (h : JoiI out l) {s : ByteArray} (hs : s ∈ out) : JoiI out (l ++ [s]) :=
 ⟨h.head, h.rise, fun x => by
  rw [h.mem, List.mem_append, List.mem_singleton]
  constructor
  ·rintro (g | g)
   ·exact .inl g
   ·exact .inr (.inl g)
  ·rintro (g | g | rfl)
   ·exact .inl g
   ·exact .inr g
   ·exact (h.mem _).1 hs⟩
theorem JoiI.put {out l : List ByteArray} (h : JoiI out l) {s : ByteArray} (hs : ¬ s ∈ out) {k : Nat} (hk0 : 1 ≤ k) (hk : k ≤ out.length) (hlo : ∀ j, 1 ≤ j → j < k → ∀ x, out[j]? = some x → Op.bytesLess x.toList s.toList = true) (hhi : ∀ x, out[k]? = some x → Op.bytesLess x.toList s.toList = false) :
  JoiI (out.take k ++ s :: out.drop k) (l ++ [s]) := by
 have hst : s ≠ tauB := fun e => hs (e ▸ (h.mem tauB).2 (.inl rfl))
 have hsL : toL s ≠ tauBL := fun e => hst (toL_inj (e.trans toL_tau.symm))
 have hne : ∀ x ∈ out, toL x ≠ toL s := fun x hx e => hs (toL_inj e ▸ hx)
 have hlow : ∀ x ∈ out.take k, ltL (toL x) (toL s) = true := fun x hx => by
  obtain ⟨j, hj⟩ := List.getElem?_of_mem hx;rw [List.getElem?_take] at hj
  split at hj
  ·rename_i hjk
   have hxo := List.mem_of_getElem? hj;rw [ltL_iff];refine ⟨hne x hxo, ?_⟩
   by_cases h0 : j = 0
   ·subst h0
    rw [h.head] at hj;have := Option.some.inj hj;subst this;exact .inl toL_tau
   ·have := hlo j (by omega) hjk x hj
    rw [toL_eq, toL_eq] at this;exact .inr ⟨hsL, this⟩
  ·cases hj
 have hhigh : ∀ x ∈ out.drop k, ltL (toL s) (toL x) = true := fun x hx => by
  have hkl : k < out.length := by
   rcases Nat.lt_or_ge k out.length with h1 | h1
   ·exact h1
   ·rw [List.drop_eq_nil_of_le h1] at hx; cases hx
  have hy : out[k]? = some out[k] := List.getElem?_eq_getElem _;have h1 : ltL (toL s) (toL out[k]) = true := by
   rcases ltL_total (toL s) (toL out[k]) with g | g | g
   ·exact g
   ·exact absurd g.symm (hne _ (List.mem_of_getElem? hy))
   ·rw [ltL_iff] at g
    have h2 := hhi _ hy;rw [toL_eq, toL_eq] at h2
    rcases g.2 with g2 | g2
    ·have h3 : out[k] = tauB := toL_inj (g2.trans toL_tau.symm)
     have h4 := List.pairwise_iff_getElem.1 h.rise 0 k (by rw [List.length_map]; omega) (by rw [List.length_map]; omega) (by omega);rw [List.getElem_map, List.getElem_map, h3] at h4;have h5 := h.head;rw [List.getElem?_eq_getElem (by omega)] at h5;rw [Option.some.inj h5, ltL_irr] at h4
     cases h4
    ·rw [h2] at g2
     cases g2.2
  rw [List.drop_eq_getElem_cons hkl] at hx
  rcases List.mem_cons.1 hx with rfl | hx
  ·exact h1
  ·obtain ⟨j, hj⟩ := List.getElem?_of_mem hx
   rw [List.getElem?_drop] at hj;have hjl := (List.getElem?_eq_some_iff.1 hj).1;have h4 := List.pairwise_iff_getElem.1 h.rise k (k + 1 + j) (by rw [List.length_map]; omega) (by rw [List.length_map]; omega) (by omega);rw [List.getElem_map, List.getElem_map, (List.getElem?_eq_some_iff.1 hj).2] at h4;exact ltL_trans h1 h4
 refine ⟨?_, ?_, fun x => ?_⟩
 ·rw [List.getElem?_append_left (by rw [List.length_take]; omega), List.getElem?_take, if_pos (by omega)]
  exact h.head
 ·rw [List.map_append, List.map_cons, List.pairwise_append]
  have hr := h.rise;rw [← List.take_append_drop k out, List.map_append, List.pairwise_append] at hr;refine ⟨hr.1, List.pairwise_cons.2 ⟨fun y hy => ?_, hr.2.1⟩, fun a ha b hb => ?_⟩
  ·obtain ⟨x, hx, rfl⟩ := List.mem_map.1 hy
   exact hhigh x hx
  ·obtain ⟨x, hx, rfl⟩ := List.mem_map.1 ha
   rcases List.mem_cons.1 hb with rfl | hb
   ·exact hlow x hx
   ·exact hr.2.2 _ ha _ hb
 ·have hm := h.mem x
  rw [← List.take_append_drop k out, List.mem_append] at hm;rw [List.mem_append, List.mem_cons, List.mem_append, List.mem_singleton]
  constructor
  ·rintro (g | g | g)
   ·rcases hm.1 (.inl g) with g | g
    ·exact .inl g
    ·exact .inr (.inl g)
   ·exact .inr (.inr g)
   ·rcases hm.1 (.inr g) with g | g
    ·exact .inl g
    ·exact .inr (.inl g)
  ·rintro (g | g | g)
   ·rcases hm.2 (.inl g) with g | g
    ·exact .inl g
    ·exact .inr (.inr g)
   ·rcases hm.2 (.inr g) with g | g
    ·exact .inl g
    ·exact .inr (.inr g)
   ·exact .inr (.inl g)
def joiF (l : List ByteArray) : List ByteArray := (Lib.compact (((tauB :: l).map toL).mergeSort fun x y => !(ltL y x))).map ofL
theorem map_toL_ofL2 (d : List (List UInt8)) : (d.map ofL).map toL = d := by
 rw [List.map_map];exact (List.map_congr_left fun x _ => toL_ofL x).trans (List.map_id _)
theorem JoiI.done {out l : List ByteArray} (h : JoiI out l) : out = joiF l := by
 have h1 : out.map toL = Lib.compact (((tauB :: l).map toL).mergeSort fun x y => !(ltL y x)) := by
  refine rise_ext (r := fun x y => ltL x y = true) (fun a g => by rw [ltL_irr] at g; cases g) (fun a b g k => ltL_asym g k) h.rise (compact_rise (sortL_rise _)) fun y => ?_
  rw [compactL_mem, List.mem_mergeSort, List.mem_map, List.mem_map]
  constructor
  ·rintro ⟨x, hx, rfl⟩
   exact ⟨x, by rw [List.mem_cons]; exact (h.mem x).1 hx, rfl⟩
  ·rintro ⟨x, hx, rfl⟩
   exact ⟨x, by rw [List.mem_cons] at hx; exact (h.mem x).2 hx, rfl⟩
 unfold joiF;rw [← h1, List.map_map];exact ((List.map_congr_left fun x _ => ofL_toL x).trans (List.map_id _)).symm
theorem JoiI.len {out l : List ByteArray} (h : JoiI out l) : out.length ≤ l.length + 1 := by
 rw [h.done];unfold joiF;rw [List.length_map];refine Nat.le_trans (Go.Lib.compact_length_le _) ?_;rw [List.length_mergeSort, List.length_map, List.length_cons];exact zR
theorem any_of_mem {l : List ByteArray} {s : ByteArray} : anyL l s = true ↔ s ∈ l := by
 unfold anyL;rw [List.any_eq_true];exact ⟨fun ⟨x, h, e⟩ => of_decide_eq_true e ▸ h, fun h => ⟨s, h, decide_eq_true rfl⟩⟩
theorem Own.ne {w : World} {base e n c : Nat} {A : Option Addr} {l : List ByteArray} (h : Own 1 strv w base e A n c l) (hn : 0 < n) : ∃ g, A = some ⟨g, 0, none⟩ ∧ base ≤ g := by
 rcases h.2.2 with ⟨-, hv⟩ | ⟨g, cap, cur, hv, hb, -⟩
 ·omega
 ·cases hv
  exact ⟨g, rfl, hb⟩
theorem shift_set {out : List ByteArray} {i : Nat} {z x : ByteArray} (hi : i < out.length) (hx : out[i]? = some x) : (out.take (i + 1) ++ z :: out.drop (i + 1)).set (i + 1) x = out.take i ++ x :: out.drop i := by
 have h1 : out.drop i = x :: out.drop (i + 1) := by rw [List.drop_eq_getElem_cons hi]; congr 1; exact Option.some.inj ((List.getElem?_eq_getElem hi).symm.trans hx)
 rw [List.set_append_right _ _ (by rw [List.length_take]; omega), List.length_take, Nat.min_eq_left (by omega), Nat.sub_self, List.set_cons_zero, List.take_add_one, hx, h1]
 simp
theorem shift_end {out : List ByteArray} {i : Nat} {z x : ByteArray} (hi : i ≤ out.length) : (out.take i ++ z :: out.drop i).set i x = out.take i ++ x :: out.drop i := by
 rw [List.set_append_right _ _ (by rw [List.length_take]; omega), List.length_take, Nat.min_eq_left (by omega), Nat.sub_self, List.set_cons_zero]
theorem shift_get {out : List ByteArray} {i : Nat} {z x : ByteArray} (hi : i < out.length) (hx : out[i]? = some x) : (out.take (i + 1) ++ z :: out.drop (i + 1))[i]? = some x := by
 rw [List.getElem?_append_left (by rw [List.length_take]; omega), List.getElem?_take, if_pos (by omega), hx]
theorem l11Join_calls (A : Option Addr) (n c : Nat) (l : List ByteArray) (w : World) (lo hi : Nat) (h : SlS w lo hi A n l) (hh : hi ≤ w.heap.size) (hn : n ≤ 100000) :
  Calls Tryz.prog 146 #[.slice A n c] w fun e w' => ∃ A' n' c', e = .returned (.slice A' n' c') ∧ Own 1 strv w' w.heap.size 9 A' n' c' (joiF l) ∧ Below w.heap.size w w' := by
 have hE := hide elem_str;have hlen := hide h.len;have k1 := heap_alloc_new w (.cells #[.string tauB] 9);have hst : Hid (Own 1 strv (w.alloc (.cells #[.string tauB] 9)) w.heap.size 9 (some ⟨w.heap.size, 0, none⟩) 1 1 [tauB]) := Own.litL k1 rfl zR;have hb0 := hide ((Below.refl w.heap.size w).alloc zR (.cells #[.string tauB] 9));replace h := hide h;clear k1;go_enter Tryz.func146, Tryz.ntmps146;go_upto_region 2 with fail;go_upto_region 3 with fail
 go_loopg [3, 4] n (fun J o i wr => ∃ (k m c : Nat) (A : Option Addr) (out : List ByteArray), k ≤ n ∧ o = .slice A m c ∧ i = .int .i64 (k : Nat) ∧ Hid (Own 1 strv wr w.heap.size 9 A m c out) ∧ Hid (JoiI out (l.take k)) ∧ Hid (Below w.heap.size w wr) ∧ Hid (n - k ≤ J))
 case atStart => exact ⟨0, 1, 1, _, [tauB], Nat.zero_le _, rfl, rfl, hst.out, JoiI.start, hb0.out, by show _ ≤ _; omega⟩
 case round =>
  clear hst hb0;obtain ⟨k, m, c2, A2, out, hk, rfl, rfl, hown, hj, hb, hG⟩ := hrel
  by_cases hlt : k < n
  ·obtain ⟨J2, rfl⟩ : ∃ G2, gk = G2 + 1 := ⟨gk - 1, by have := hG.out; omega⟩
   have hJ2 : Hid (n - (k + 1) ≤ J2) := by have := hG.out; show _ ≤ _; omega
   obtain ⟨b, off, s, rfl, g1, g2, g3, hx, c0, -⟩ := SlS.get h.out hlt;have hbb := hb.out;have c00 := hide c0;have z0 := (hbb.cell (p := ⟨b, off + k, none⟩) g3).trans c0;have hml := hown.out.len;have hm1 : 1 ≤ m ∧ m ≤ k + 1 := by
    have h1 := hj.out.len;have h2 := hj.out.head;rw [List.length_take] at h1;have h3 := (List.getElem?_eq_some_iff.1 h2).1;omega
   obtain ⟨hm0, hm1⟩ := hm1;have q := l11Find_calls s A2 m c2 out wr _ _ (hown.out.sl flat_strv) (by omega);have htk : l.take (k + 1) = l.take k ++ [s] := by rw [List.take_add_one, hx]; rfl
   have hI0 : (0 : Int) ≤ (k : Int) := by omega
   have hI1 : (k : Int) < (n : Int) := by omega
   clear c0 hbb hG
   by_cases hin : s ∈ out
   ·have hj2 : Hid (JoiI out (l.take (k + 1))) := by show JoiI _ _; rw [htk]; exact hj.out.old hin
    replace q := hide (q.mono (R' := fun e w' => ∃ i : Nat, e = .returned (.int .i64 (i : Int)) ∧ wr = w') (by
     rintro e w' ⟨i, rfl, hf, rfl⟩
     rcases hf with ⟨-, h2⟩ | ⟨k, rfl, -, -⟩
     ·rw [any_of_mem.2 hin] at h2; cases h2
     ·exact ⟨k, rfl, rfl⟩))
    clear hj hx htk hin hml;go_wp2_with (first | (go_at_call 174; (with_reducible refine q.out.mono ?_); rintro e w5 ⟨i, rfl, rfl⟩; have hge : (0 : Int) ≤ (i : Int) := Int.natCast_nonneg _))
    go_roundg J2
    case measure => omega
    case rel => exact ⟨k + 1, m, c2, A2, out, by omega, rfl, by go_num, hown, hj2, hb, hJ2⟩
   ·replace q := hide (q.mono (R' := fun e w' => e = .returned (.int .i64 (-1)) ∧ wr = w') (by
     rintro e w' ⟨i, rfl, hf, rfl⟩
     rcases hf with ⟨rfl, h2⟩ | ⟨k, rfl, -, h2⟩
     ·exact ⟨rfl, rfl⟩
     ·exact absurd (any_of_mem.1 h2) hin))
    have hna : Hid (∀ out', JoiI out' (l.take k ++ [s]) → JoiI out' (l.take (k + 1))) := fun out' h => by rw [htk]; exact h
    have hzw := hb.out.size;clear hx htk;go_upto_region 6 with (first | (go_at_call 174; (with_reducible refine q.out.mono ?_); rintro e w5 ⟨rfl, rfl⟩));go_upto_region 7 with fail;obtain ⟨wO, rfl⟩ : ∃ wO : World, wO = wr := ⟨_, rfl⟩
    go_loopw [5] (fun i wr => ∃ t : Nat, 1 ≤ t ∧ t ≤ m ∧ i = .int .i64 (t : Nat) ∧ Hid (∀ j, 1 ≤ j → j < t → ∀ x, out[j]? = some x → Op.bytesLess x.toList s.toList = true) ∧ Hid (Own 1 strv wr w.heap.size 9 A2 m c2 out) ∧ Hid (Below w.heap.size w wr)) (fun i _ => m - (intOf i).toNat)
    case atStart => exact ⟨1, zR, by omega, rfl, fun j h1 h2 => by omega, hown.out, hb.out⟩
    case round =>
     clear hown hb q z0;obtain ⟨t, ht1, htm, rfl, hlo, hown, hb⟩ := hrel;have z0 := (hb.out.cell (p := ⟨b, off + k, none⟩) g3).trans c00.out;have t0 : (0 : Int) ≤ (t : Int) := by omega
     by_cases hgo : t < m ∧ ∃ x, out[t]? = some x ∧ Op.bytesLess x.toList s.toList = true
     ·obtain ⟨htl, x, hx, hxs⟩ := hgo
      have t1 : (t : Int) < (m : Int) := by omega
      have f1 : decide ((t : Int) < (m : Int)) = true := decide_eq_true t1;obtain ⟨ga, oa, x', rfl, -, -, -, hx', cx, -⟩ := SlS.get (hown.out.sl flat_strv) htl;rw [hx] at hx';injection hx' with hx';subst hx';have hlo2 : Hid (∀ j, 1 ≤ j → j < t + 1 → ∀ x, out[j]? = some x → Op.bytesLess x.toList s.toList = true) := fun j h1 h2 y hy => by
       by_cases e : j = t
       ·subst e; rw [hx] at hy; injection hy with hy; rw [← hy]; exact hxs
       ·exact hlo.out j h1 (by omega) y hy
      clear hx hlo;go_wp2_with fail;go_quiet (fail);go_wp2_with fail;go_roundw
      case rel => exact ⟨t + 1, by omega, by omega, by go_num, hlo2.out, hown.out.keep fun _ _ => rfl, hb.out.trans ((below_drewN _ nq).mono hb.out.size)⟩
      case measure => simp [intOf]; omega
     ·have hput := hide (hj.out.put (s := s) hin ht1 (by omega) hlo.out (fun x hx => by
       have h3 := (List.getElem?_eq_some_iff.1 hx).1;rw [Bool.eq_false_iff];exact fun h4 => hgo ⟨by omega, x, hx, h4⟩))
      have hstop : t = m ∨ ∃ x, t < m ∧ out[t]? = some x ∧ Op.bytesLess x.toList s.toList = false := by
       by_cases e : t = m
       ·exact .inl e
       ·obtain ⟨x, hx⟩ : ∃ x, out[t]? = some x := ⟨_, List.getElem?_eq_getElem (by omega)⟩
        exact .inr ⟨x, by omega, hx, Bool.eq_false_iff.2 fun h4 => hgo ⟨by omega, x, hx, h4⟩⟩
      clear hgo hlo;have hAB : Hid (t < m → ∀ ga oa, A2 = some ⟨ga, oa, none⟩ → ∀ x, out[t]? = some x → wr.cell? ⟨ga, oa + t, none⟩ = some (.string x)) := fun h1 ga oa eA x hx => by
       obtain ⟨ga', oa', x', e', -, -, -, hx', cx, -⟩ := SlS.get (hown.out.sl flat_strv) h1;rw [eA] at e'
       cases e'
       rw [hx] at hx';injection hx' with hx';rw [hx']; exact cx
      obtain ⟨gA, rfl, -⟩ := hown.out.ne (by omega)
      rcases hstop with hst | ⟨x, htl, hx, hxs⟩
      focus
       have t1 : ¬ (t : Int) < (m : Int) := by omega
       have f1 : decide ((t : Int) < (m : Int)) = false := decide_eq_false t1;have f2 : decide (t < m) = false := decide_eq_false (by omega);have f3 : ¬ t < m := by omega
       clear hAB hst;go_wp2_with fail;go_quiet (fail);go_upto_region 9 with fail;clear t1 f1 f2 f3
      rotate_left
      focus
       have t1 : (t : Int) < (m : Int) := by omega
       have f1 : decide ((t : Int) < (m : Int)) = true := decide_eq_true t1;have f2 : decide (t < m) = true := decide_eq_true htl;have cx := hAB.out htl gA 0 rfl x hx;rw [Nat.zero_add] at cx;clear hAB hx;go_wp2_with fail;go_quiet (fail);go_upto_region 9 with fail;clear hxs cx htl t1 f1 f2
      all_goals
       obtain ⟨wq, hwq⟩ : ∃ wq, wq = wr.drewN nq := ⟨_, rfl⟩;have hownq : Hid (Own 1 strv wq w.heap.size 9 (some ⟨gA, 0, none⟩) m c2 out) := by rw [hwq]; exact hown.out.keep fun _ _ => rfl
       have hbq : Hid (Below w.heap.size w wq) := by rw [hwq]; exact hb.out.trans ((below_drewN _ nq).mono hb.out.size)
       rw [← hwq];replace hwq := hide hwq;have hzq := hbq.out.size;have hza : w.heap.size ≤ (wq.alloc (.cells #[.string ⟨#[]⟩] 9)).heap.size := by rw [World.size_alloc]; omega
       have hba := hide (hbq.out.alloc hzq (.cells #[.string ⟨#[]⟩] 9));clear hown hb;go_upto_region 10 with (first | (at_builtin; (with_reducible refine wpList_app rfl (.tmp 38) (.tmp 39) rfl hE.out flat_strv rfl (hownq.out.alloc _) rfl (Sl.lit1' wq 9 (⟨#[]⟩ : ByteArray) _ rfl 1 _ ?d0) ?d1 hza ?_); rotate_right; intro A6 c6 w6 hown6 hgr6 hb6 hat6))
       case d0 => rfl
       case d1 => omega
       obtain ⟨g6, rfl, hg6⟩ := hown6.ne (by omega);have hb7 := hide (hba.out.trans hb6);have hS0 : Hid (Own 1 strv w6 w.heap.size 9 (some ⟨g6, 0, none⟩) (m + 1) c6 (out.take m ++ (⟨#[]⟩ : ByteArray) :: out.drop m)) := by
        show Own _ _ _ _ _ _ _ _ _
        rw [List.take_of_length_le (by omega), List.drop_eq_nil_of_le (by omega)];exact hown6
       clear hown6 hgr6 hb6 hat6 hownq hbq hba hza;go_wp2_with fail;obtain ⟨wP, rfl⟩ : ∃ wP : World, wP = wr := ⟨_, rfl⟩
       go_loopw [6] (fun i wr => ∃ (q : Nat) (y : ByteArray), t ≤ q ∧ q ≤ m ∧ i = .int .i64 (q : Nat) ∧ Hid (Own 1 strv wr w.heap.size 9 (some ⟨g6, 0, none⟩) (m + 1) c6 (out.take q ++ y :: out.drop q)) ∧ Hid (Below w.heap.size w wr)) (fun i _ => (intOf i).toNat)
       case atStart => exact ⟨m, _, htm, zR, by go_num, hS0.out, hb7.out⟩
       case round =>
        clear hS0 hb7;obtain ⟨q, y, hq1, hq2, rfl, hS, hb⟩ := hrel
        by_cases hqt : t < q
        ·have q0 : (t : Int) < (q : Int) := by omega
         obtain ⟨q', rfl⟩ : ∃ q', q = q' + 1 := ⟨q - 1, by omega⟩;have q1 : (0 : Int) ≤ (q' : Int) := by omega
         have q2 : (q' : Int) < (m : Int) + 1 := by omega
         have q3 : (q' : Int) + 1 < (m : Int) + 1 := by omega
         have q4 : (0 : Int) ≤ (q' : Int) + 1 := by omega
         obtain ⟨x1, hx1⟩ : ∃ x, out[q']? = some x := ⟨_, List.getElem?_eq_getElem (by omega)⟩;obtain ⟨ga, oa, xa, ea, -, -, -, hxa, ca, -⟩ := SlS.get (hS.out.sl flat_strv) (show q' < m + 1 by omega)
         cases ea
         rw [Nat.zero_add] at ca;rw [shift_get (by omega) hx1] at hxa;injection hxa with hxa;subst hxa;obtain ⟨gb, ob, xb, eb, -, -, -, -, cb, fb⟩ := SlS.get (hS.out.sl flat_strv) (show q' + 1 < m + 1 by omega)
         cases eb
         rw [Nat.zero_add] at cb fb;have hset := hS.out.setS (q' + 1) x1;rw [shift_set (by omega) hx1] at hset;replace hset := hide hset;have hbs := hide (hb.out.setCell (p := ⟨g6, q' + 1, none⟩) hg6 (.string x1));clear hx1;go_wp2_with fail;go_roundw
         case rel => exact ⟨q', x1, by omega, by omega, by go_num, hset.out, hbs.out⟩
         case measure => simp [intOf]
        ·obtain rfl : q = t := by omega
         have q0 : ¬ (q : Int) < (q : Int) := by omega
         have q1 : (0 : Int) ≤ (q : Int) := by omega
         have q2 : (q : Int) < ((m + 1 : Nat) : Int) := by omega
         have z1 := (hb.out.cell (p := ⟨b, off + k, none⟩) g3).trans c00.out;obtain ⟨g6', o6, x6, e6, -, -, -, -, c6', f6⟩ := SlS.get (hS.out.sl flat_strv) (show q < m + 1 by omega);cases e6;rw [Nat.zero_add] at c6' f6;have hset := hide (hS.out.setS q s);have hfin := shift_end (z := y) (x := s) (show q ≤ out.length by omega);rw [hfin] at hset;have hbs := hide (hb.out.setCell (p := ⟨g6, q, none⟩) hg6 (.string s));have hJ := hide (hna.out _ hput.out);clear hfin;go_wp2_with fail
         go_roundg J2
         case measure => omega
         case rel => exact ⟨k + 1, m + 1, c6, _, _, by omega, rfl, by go_num, hset.out, hJ.out, hbs.out, hJ2.out⟩
  ·obtain rfl : k = n := by omega
   have hkk : ¬ (k : Int) < (k : Int) := by omega
   have hdone : Hid (out = joiF l) := by
    have := hj.out.done;rw [List.take_of_length_le (by rw [hlen.out]; exact zR)] at this;exact this
   clear hj;go_wp2_with fail;go_ret;exact ⟨A2, m, c2, rfl, by rw [← hdone.out]; exact hown.out, hb.out⟩
end Go.Proofs.YtnhomkmfbngmgaaGreatDoor
namespace Go.Proofs.YtnhomkmfbngmgaaGreatDoor
section
variable (src : Nat → Prop) (arc : Nat → Nat → Prop)
def lay : Nat → Nat → Prop
 | 0, k => src k
 | n + 1, k => lay n k ∨ ∃ a, lay n a ∧ arc a k
theorem lay_mono {n m k : Nat} (h : lay src arc n k) (hm : n ≤ m) : lay src arc m k := by
 induction m with
 | zero =>
  have : n = 0 := by omega
  subst this; exact h
 | succ m ih =>
  rcases Nat.lt_or_ge m n with h1 | h1
  ·have : n = m + 1 := by omega
   subst this; exact h
  ·exact .inl (ih h1)
def least (d k : Nat) : Prop := lay src arc d k ∧ ∀ m, m < d → ¬ lay src arc m k
theorem least_uniq {d e k : Nat} (h : least src arc d k) (g : least src arc e k) : d = e := by
 rcases Nat.lt_trichotomy d e with h1 | h1 | h1
 ·exact absurd h.1 (g.2 d h1)
 ·exact h1
 ·exact absurd g.1 (h.2 e h1)
theorem least_of {n k : Nat} (h : lay src arc n k) : ∃ d, d ≤ n ∧ least src arc d k := by
 induction n with
 | zero => exact ⟨0, zR, h, fun m hm => absurd hm (by omega)⟩
 | succ n ih =>
  by_cases h1 : lay src arc n k
  ·obtain ⟨d, h2, h3⟩ := ih h1
   exact ⟨d, by omega, h3⟩
  ·refine ⟨n + 1, zR, h, fun m hm hl => h1 (lay_mono src arc hl (by omega))⟩
theorem least_pred {n k : Nat} (h : least src arc (n + 1) k) : ∃ a, least src arc n a ∧ arc a k := by
 obtain ⟨h1, h2⟩ := h
 rcases h1 with h1 | ⟨a, ha, hk⟩
 ·exact absurd h1 (h2 n (by omega))
 ·refine ⟨a, ⟨ha, fun m hm hl => ?_⟩, hk⟩
  exact h2 (m + 1) (by omega) (.inr ⟨a, hl, hk⟩)
def DistIs (n : Nat) (out : List Int) : Prop := out.length = n ∧ ∀ (k : Nat) (x : Int), out[k]? = some x → (0 ≤ x → least src arc x.toNat k) ∧ (x < 0 → x = -1 ∧ ∀ m, ¬ lay src arc m k)
theorem DistIs.uniq {n : Nat} {a b : List Int} (h : DistIs src arc n a) (g : DistIs src arc n b) : a = b := by
 apply List.ext_getElem?
 intro k
 by_cases hk : k < n
 ·have ha : a[k]? = some (a[k]'(by rw [h.1]; exact hk)) := List.getElem?_eq_getElem _
  have hb : b[k]? = some (b[k]'(by rw [g.1]; exact hk)) := List.getElem?_eq_getElem _;rw [ha, hb];generalize (a[k]'(by rw [h.1]; exact hk)) = x at *;generalize (b[k]'(by rw [g.1]; exact hk)) = y at *;obtain ⟨h1, h2⟩ := h.2 k x ha;obtain ⟨g1, g2⟩ := g.2 k y hb
  by_cases hx : 0 ≤ x
  ·by_cases hy : 0 ≤ y
   ·have := least_uniq src arc (h1 hx) (g1 hy)
    congr 1
    omega
   ·exact absurd (h1 hx).1 ((g2 (by omega)).2 _)
  ·by_cases hy : 0 ≤ y
   ·exact absurd (g1 hy).1 ((h2 (by omega)).2 _)
   ·rw [(h2 (by omega)).1, (g2 (by omega)).1]
 ·rw [List.getElem?_eq_none (by rw [h.1]; omega), List.getElem?_eq_none (by rw [g.1]; omega)]
def RoundIs (N n : Nat) (out : List Int) : Prop := out.length = N ∧ ∀ (k : Nat) (x : Int), out[k]? = some x → (0 ≤ x → least src arc x.toNat k ∧ x ≤ n) ∧ (x < 0 → x = -1 ∧ ¬ lay src arc n k)
theorem RoundIs.start {N : Nat} {out : List Int} (hl : out.length = N) (h : ∀ (k : Nat) (x : Int), out[k]? = some x → (x = 0 ∧ src k) ∨ (x = -1 ∧ ¬ src k)) : RoundIs src arc N 0 out := by
 refine ⟨hl, fun k x hx => ?_⟩
 rcases h k x hx with ⟨rfl, hs⟩ | ⟨rfl, hs⟩
 ·exact ⟨fun _ => ⟨⟨hs, fun m hm => absurd hm (by omega)⟩, by omega⟩, fun h => absurd h (by omega)⟩
 ·exact ⟨fun h => absurd h (by omega), fun _ => ⟨rfl, hs⟩⟩
structure QueIs (N : Nat) (out : List Int) (todo : List Nat) : Prop where
 len : out.length = N
 exact_ : ∀ (k : Nat) (x : Int), out[k]? = some x → (0 ≤ x → least src arc x.toNat k) ∧ (x < 0 → x = -1)
 src_ : ∀ k, src k → ∃ x : Int, out[k]? = some x ∧ 0 ≤ x
 todo_ : ∀ k, k ∈ todo → ∃ x : Int, out[k]? = some x ∧ 0 ≤ x
 done_ : ∀ (a k : Nat) (x : Int), out[a]? = some x → 0 ≤ x → a ∉ todo → arc a k → ∃ y : Int, out[k]? = some y ∧ 0 ≤ y
 sorted : todo.Pairwise fun a b => ∀ (x y : Int), out[a]? = some x → out[b]? = some y → x ≤ y
 near : ∀ a, todo.head? = some a → ∀ b, b ∈ todo → ∀ (x y : Int), out[a]? = some x → out[b]? = some y → y ≤ x + 1
theorem QueIs.done {N : Nat} {out : List Int} (h : QueIs src arc N out []) (hin : ∀ a k, arc a k → a < N ∧ k < N) (hsrc : ∀ k, src k → k < N) : DistIs src arc N out := by
 refine ⟨h.len, fun k x hx => ⟨(h.exact_ k x hx).1, fun h0 => ⟨(h.exact_ k x hx).2 h0, ?_⟩⟩⟩;have key : ∀ m k, lay src arc m k → ∃ y : Int, out[k]? = some y ∧ 0 ≤ y := by
  intro m
  induction m with
  | zero => exact fun k hk => h.src_ k hk
  | succ m ih =>
   intro k hk
   rcases hk with hk | ⟨a, ha, hak⟩
   ·exact ih k hk
   ·obtain ⟨y, hy, hy0⟩ := ih a ha
    exact h.done_ a k y hy hy0 (by simp) hak
 intro m hm;obtain ⟨y, hy, hy0⟩ := key m k hm;rw [hx] at hy
 cases hy
 omega
theorem QueIs.found {N : Nat} {out : List Int} {k : Nat} {todo : List Nat} (h : QueIs src arc N out (k :: todo)) {m : Int} (hm : out[k]? = some m) : ∀ (d b : Nat), (d : Int) ≤ m → least src arc d b → ∃ y : Int, out[b]? = some y ∧ 0 ≤ y := by
 intro d
 induction d with
 | zero => exact fun b _ hb => h.src_ b hb.1
 | succ d ih =>
  intro b hd hb;obtain ⟨a, ha, hab⟩ := least_pred src arc hb;obtain ⟨y, hy, hy0⟩ := ih a (by omega) ha;have hyd : y.toNat = d := least_uniq src arc ((h.exact_ a y hy).1 hy0) ha;refine h.done_ a b y hy hy0 ?_ hab;intro hin
  rcases List.mem_cons.1 hin with rfl | hin
  ·rw [hm] at hy
   cases hy
   omega
  ·have := (List.pairwise_cons.1 h.sorted).1 a hin m y hm hy
   omega
theorem QueIs.add {N : Nat} {out : List Int} {k b : Nat} {todo : List Nat} (h : QueIs src arc N out (k :: todo)) {m x : Int} (hm : out[k]? = some m) (hb : out[b]? = some x) (hx : x < 0) (hkb : arc k b) :
  QueIs src arc N (out.set b (m + 1)) (k :: (todo ++ [b])) := by
 have hm0 : 0 ≤ m := by
  obtain ⟨y, hy, hy0⟩ := h.todo_ k (by simp);rw [hm] at hy
  cases hy
  exact hy0
 have hbl : b < out.length := (List.getElem?_eq_some_iff.1 hb).1;have hne : ∀ {j : Nat} {y : Int}, out[j]? = some y → 0 ≤ y → j ≠ b := by
  rintro j y hy hy0 rfl;rw [hb] at hy
  cases hy
  omega
 have hkeep : ∀ {j : Nat} {y : Int}, out[j]? = some y → 0 ≤ y → (out.set b (m + 1))[j]? = some y := fun hy hy0 => by
  rw [List.getElem?_set_ne (fun e => hne hy hy0 e.symm)];exact hy
 have hself : (out.set b (m + 1))[b]? = some (m + 1) := List.getElem?_set_self hbl;have hlay : least src arc (m + 1).toNat b := by
  have hk := (h.exact_ k m hm).1 hm0;rw [show (m + 1).toNat = m.toNat + 1 by omega];refine ⟨.inr ⟨k, hk.1, hkb⟩, fun j hj hl => ?_⟩;obtain ⟨d, hd, hld⟩ := least_of src arc hl;obtain ⟨y, hy, hy0⟩ := h.found src arc hm d b (by omega) hld;rw [hb] at hy
  cases hy
  omega
 have hold : ∀ {j : Nat} {y : Int}, j ∈ k :: todo → (out.set b (m + 1))[j]? = some y → out[j]? = some y := fun hj hy => by
  obtain ⟨z, hz, hz0⟩ := h.todo_ _ hj;rw [hkeep hz hz0] at hy;rw [hz, hy]
 have hmb : ∀ j ∈ k :: todo, ∀ y, out[j]? = some y → y ≤ m + 1 := fun j hj y hy => h.near k rfl j hj m y hm hy
 refine ⟨by rw [List.length_set]; exact h.len, fun j y hy => ?_, fun j hj => ?_, fun j hj => ?_, fun a j y hy hy0 ha haj => ?_, ?_, ?_⟩
 ·by_cases e : j = b
  ·subst e
   rw [hself] at hy
   cases hy
   exact ⟨fun _ => hlay, fun h0 => absurd h0 (by omega)⟩
  ·rw [List.getElem?_set_ne (fun e' => e e'.symm)] at hy
   exact h.exact_ j y hy
 ·obtain ⟨y, hy, hy0⟩ := h.src_ j hj
  exact ⟨y, hkeep hy hy0, hy0⟩
 ·rw [← List.cons_append, List.mem_append] at hj
  rcases hj with hj | hj
  ·obtain ⟨y, hy, hy0⟩ := h.todo_ j hj
   exact ⟨y, hkeep hy hy0, hy0⟩
  ·rw [List.mem_singleton.1 hj]
   exact ⟨_, hself, by omega⟩
 ·have hab : a ≠ b := by
   rintro rfl;exact ha (by simp)
  rw [List.getElem?_set_ne (fun e => hab e.symm)] at hy;obtain ⟨z, hz, hz0⟩ := h.done_ a j y hy hy0 (fun hin => ha (by rw [← List.cons_append, List.mem_append]; exact .inl hin)) haj;exact ⟨z, hkeep hz hz0, hz0⟩
 ·rw [← List.cons_append, List.pairwise_append]
  refine ⟨?_, by simp, fun a ha c hc y z hy hz => ?_⟩
  ·refine List.Pairwise.imp_of_mem ?_ h.sorted
   intro a c ha hc hq y z hy hz;exact hq y z (hold ha hy) (hold hc hz)
  ·rw [List.mem_singleton.1 hc, hself] at hz
   cases hz
   exact hmb a ha y (hold ha hy)
 ·intro a ha c hc y z hy hz
  cases ha
  have hym := hold (by simp) hy;rw [hm] at hym
  cases hym
  rw [← List.cons_append, List.mem_append] at hc
  rcases hc with hc | hc
  ·exact hmb c hc z (hold hc hz)
  ·rw [List.mem_singleton.1 hc, hself] at hz
   cases hz
   omega
theorem QueIs.pop {N : Nat} {out : List Int} {k : Nat} {todo : List Nat} (h : QueIs src arc N out (k :: todo)) (hk : ∀ b, arc k b → ∃ y : Int, out[b]? = some y ∧ 0 ≤ y) : QueIs src arc N out todo := by
 obtain ⟨m, hm, hm0⟩ := h.todo_ k (by simp);refine ⟨h.len, h.exact_, h.src_, fun j hj => h.todo_ j (List.mem_cons_of_mem _ hj), fun a j y hy hy0 ha haj => ?_, (List.pairwise_cons.1 h.sorted).2, fun a ha b hb x y hx hy => ?_⟩
 ·by_cases e : a = k
  ·subst e
   exact hk j haj
  ·exact h.done_ a j y hy hy0 (fun hin => by
    rcases List.mem_cons.1 hin with hin | hin
    ·exact e hin
    ·exact ha hin) haj
 ·have h1 := h.near k rfl b (List.mem_cons_of_mem _ hb) m y hm hy
  have h2 := (List.pairwise_cons.1 h.sorted).1 a (List.mem_of_mem_head? ha) m x hm hx;omega
theorem QueIs.start {N : Nat} {out : List Int} {todo : List Nat} (hl : out.length = N) (h : ∀ (k : Nat) (x : Int), out[k]? = some x → (x = 0 ∧ src k) ∨ (x = -1 ∧ ¬ src k)) (hs : ∀ k, src k ↔ k ∈ todo) (hN : ∀ k, src k → k < N) : QueIs src arc N out todo := by
 have hz : ∀ k, src k → out[k]? = some 0 := fun k hk => by
  have ho : out[k]? = some (out[k]'(by rw [hl]; exact hN k hk)) := List.getElem?_eq_getElem _
  rcases h k _ ho with ⟨h1, _⟩ | ⟨_, h1⟩
  ·rw [ho, h1]
  ·exact absurd hk h1
 have hzt : ∀ k x, k ∈ todo → out[k]? = some x → x = 0 := fun k x hk hx => by
  rw [hz k ((hs k).2 hk)] at hx;exact (Option.some.inj hx).symm
 refine ⟨hl, fun k x hx => ?_, fun k hk => ⟨0, hz k hk, by omega⟩, fun k hk => ⟨0, hz k ((hs k).2 hk), by omega⟩, fun a k x hx hx0 ha _ => ?_, ?_, fun a ha b hb x y hx hy => ?_⟩
 ·rcases h k x hx with ⟨rfl, h1⟩ | ⟨rfl, h1⟩
  ·exact ⟨fun _ => ⟨h1, fun m hm => absurd hm (by simp)⟩, fun h0 => absurd h0 (by omega)⟩
  ·exact ⟨fun h0 => absurd h0 (by omega), fun _ => rfl⟩
 ·rcases h a x hx with ⟨rfl, h1⟩ | ⟨rfl, h1⟩
  ·exact absurd ((hs a).1 h1) ha
  ·omega
 ·rw [List.pairwise_iff_forall_sublist]
  intro a b hab x y hx hy;have ha := hab.subset (List.mem_cons_self);have hb := hab.subset (List.mem_cons_of_mem a (List.mem_cons_self));rw [hzt a x ha hx, hzt b y hb hy];omega
 ·rw [hzt a x (List.mem_of_mem_head? ha) hx, hzt b y hb hy]
  omega
end
def arcE (fw : Bool) (es : List Ed) (a k : Nat) : Prop := ∃ e : Ed, e ∈ es ∧ (if fw = true then e.1 = (a : Int) ∧ e.2.2 = (k : Int) else e.2.2 = (a : Int) ∧ e.1 = (k : Int))
def srcE (l : List Int) (k : Nat) : Prop := (k : Int) ∈ l
noncomputable def distF (fw : Bool) (N : Nat) (es : List Ed) (l : List Int) : List Int :=
 open Classical in if h : ∃ out, DistIs (srcE l) (arcE fw es) N out then h.choose else []
theorem distF_of {fw : Bool} {N : Nat} {es : List Ed} {l : List Int} {out : List Int} (h : DistIs (srcE l) (arcE fw es) N out) : distF fw N es l = out := by
 have hx : ∃ out, DistIs (srcE l) (arcE fw es) N out := ⟨out, h⟩;unfold distF;rw [dif_pos hx];exact DistIs.uniq _ _ hx.choose_spec h
section
variable {N n : Nat} {es : List Ed} {out next : List Int} {i : Nat} {e : Ed}
end
def negs : List Int → Nat
 | [] => 0
 | x :: l => (if x < 0 then 1 else 0) + negs l
theorem negs_set : ∀ {l : List Int} {k : Nat} {z v : Int}, l[k]? = some z → z < 0 → 0 ≤ v → negs (l.set k v) + 1 = negs l
 | [], k, z, v, h, _, _ => by simp at h
 | x :: l, 0, z, v, h, hz, hv => by
  simp at h
  subst h;simp only [List.set_cons_zero, negs];rw [if_neg (by omega), if_pos hz];omega
 | x :: l, k + 1, z, v, h, hz, hv => by
  have := negs_set (l := l) (k := k) (v := v) (by simpa using h) hz hv;simp only [List.set_cons_succ, negs];omega
theorem negs_le : ∀ (l : List Int), negs l ≤ l.length
 | [] => zR
 | x :: l => by
  have := negs_le l;simp only [negs, List.length_cons]
  split <;> omega
section
variable {es : List Ed} {vs : List Int} {N rd i : Nat} {out nx : List Int}
theorem arcE_in {N : Nat} (h : ∀ e ∈ es, (0 ≤ e.1 ∧ e.1 < (N : Int)) ∧ (0 ≤ e.2.2 ∧ e.2.2 < (N : Int))) {fw : Bool} : ∀ a k, arcE fw es a k → a < N ∧ k < N := by
 rintro a k ⟨e, he, h1⟩;have := h e he
 cases fw
 ·rw [if_neg (by decide)] at h1
  omega
 ·rw [if_pos rfl] at h1
  omega
end
open Go.ChangeAt Go.ChangeShapes Go.RowKit Go.WideShapes
def inS (s : List Bool) (v : Nat) : Bool := s[v]?.getD false
theorem inS_some {s : List Bool} {v : Nat} {b : Bool} (h : s[v]? = some b) : inS s v = b := by unfold inS; rw [h]; rfl
theorem inS_lt {s : List Bool} {v : Nat} (h : inS s v = true) : v < s.length := by
 unfold inS at h
 cases e : s[v]? with
 | none => rw [e] at h; cases h
 | some b => exact (List.getElem?_eq_some_iff.1 e).1
theorem inS_big {s : List Bool} {v : Nat} (h : s.length ≤ v) : inS s v = false := by unfold inS; rw [List.getElem?_eq_none h]; rfl
theorem inS_get {s : List Bool} {v : Nat} (h : v < s.length) : s[v]? = some (inS s v) := by unfold inS; rw [List.getElem?_eq_getElem h]; rfl
theorem inS_set {s : List Bool} {v u : Nat} {b : Bool} (h : v < s.length) : inS (s.set v b) u = if v = u then b else inS s u := by
 unfold inS
 by_cases e : v = u
 ·subst e; rw [List.getElem?_set_self h]; simp
 ·rw [List.getElem?_set_ne e]; simp [e]
def setOf (n : Nat) (p : Nat → Bool) : List Bool := (List.range n).map p
theorem setOf_len (n : Nat) (p : Nat → Bool) : (setOf n p).length = n := by simp [setOf]
theorem setOf_get {n : Nat} {p : Nat → Bool} {v : Nat} (h : v < n) : (setOf n p)[v]? = some (p v) := by simp [setOf, h]
theorem inS_setOf {n : Nat} {p : Nat → Bool} {v : Nat} : inS (setOf n p) v = (decide (v < n) && p v) := by
 by_cases h : v < n
 ·rw [inS_some (setOf_get h)]; simp [h]
 ·rw [inS_big (by rw [setOf_len]; omega)]; simp [h]
def bv (b : Bool) : List Value := [.bool b]
abbrev SlB := Sl 1 bv
theorem info_bool : (Tryz.prog.info? 4).map (fun i => (i.zero, i.size, i.bytes)) = some (some (.bool false), 1, 1) := by kernel_rfl
theorem elem_bool : Elem Tryz.prog 135 4 1 1 := Elem.of Tryz.underlying135 info_bool rfl (by omega) (by omega)
theorem elem_int64 : Elem Tryz.prog 32 2 1 8 := Elem.of Tryz.underlying32 info_int64 rfl (by omega) (by omega)
section
variable {w w' : World} {lo hi n : Nat} {A : Option Addr}
theorem SlB.get {l : List Bool} (h : SlB w lo hi A n l) {k : Nat} (hk : k < n) :
  ∃ b off, A = some ⟨b, off, none⟩ ∧ lo ≤ b ∧ b < hi ∧ b < w.heap.size ∧ l[k]? = some (inS l k) ∧ w.cell? ⟨b, off + k, none⟩ = some (.bool (inS l k)) ∧ w.frozen? ⟨b, off + k, none⟩ = false := by
 obtain ⟨b, off, e, g1, g2, g3, hc⟩ := h.at_ (by omega);have hl : k < l.length := by rw [h.len]; exact hk
 have h0 := hc k (inS l k) (inS_get hl) 0 _ rfl;simp only [Nat.mul_one, Nat.add_zero] at h0;exact ⟨b, off, e, g1, g2, g3, inS_get hl, h0.1, h0.2⟩
theorem SlB.put {b off : Nat} {l : List Bool} (h : SlB w lo hi (some ⟨b, off, none⟩) n l) {k : Nat} (hk : k < n) (x : Bool) : SlB (w.setCell ⟨b, off + k, none⟩ (.bool x)) lo hi (some ⟨b, off, none⟩) n (l.set k x) := by
 have := h.putN hk (fun _ => rfl) x
 simpa [putCells, bv] using this
theorem SlI.put' {b off : Nat} {l : List Int} (h : SlI w lo hi (some ⟨b, off, none⟩) n l) {k : Nat} (hk : k < n) (x : Int) : SlI (w.setCell ⟨b, off + k, none⟩ (.int .i64 x)) lo hi (some ⟨b, off, none⟩) n (l.set k x) := h.put hk x
end
theorem SlB.made (w : World) (n : Nat) : SlB (w.alloc (.cells (madeCells #[.bool false] n) 4)) w.heap.size (w.heap.size + 1) (some ⟨w.heap.size, 0, none⟩) n (setOf n fun _ => false) := by
 refine ⟨setOf_len _ _, fun hn => ⟨w.heap.size, 0, rfl, zR, by omega, by simp, fun k x hx j u hu => ?_⟩⟩;have hk : k < n := by
  have := (List.getElem?_eq_some_iff.1 hx).1
  rwa [setOf_len] at this
 rw [setOf_get hk] at hx
 cases hx
 have hj : j = 0 := by
  have := (List.getElem?_eq_some_iff.1 hu).1
  simp [bv] at this
  exact this
 subst hj
 simp [bv] at hu
 subst hu;have hg := heap_alloc_new w (.cells (madeCells #[.bool false] n) 4);refine ⟨(cell_of_row _ _ _ _ _ (0, 0) hg).trans ?_, frozen_of_row _ _ _ _ _ hg⟩
 simp [madeCells, Value.cells, hk, Nat.mod_one]
theorem run_make_bool (n : Nat) (hn : n ≤ 1048576) (W : World) : (Instr.makeSlice 135 (.int .i64 (n : Int)) (.int .i64 (n : Int))).run Tryz.prog W = .ok (.slice (some ⟨W.heap.size, 0, none⟩) n n) (W.alloc (.cells (madeCells #[.bool false] n) 4)) := by
 obtain ⟨i0, hi0, hz0, hz1, hz2⟩ := info_parts info_bool;have h := make_row (P := Tryz.prog) 135 4 i0 _ _ n Tryz.underlying135 hi0 hz0 hz1 (by rw [hz2]; omega) (by omega) W;rw [Nat.mul_one] at h;exact h
def intK (n k : Nat) (p : Nat → Int) : List Int := (List.range n).map fun v => if v < k then p v else 0
theorem intK_len (n k : Nat) (p : Nat → Int) : (intK n k p).length = n := by simp [intK]
theorem intK_all (n : Nat) (p : Nat → Int) : intK n n p = (List.range n).map p := by
 unfold intK
 apply List.map_congr_left
 intro v hv;rw [if_pos (List.mem_range.1 hv)]
theorem intK_step {n k : Nat} {p : Nat → Int} (hk : k < n) : (intK n k p).set k (p k) = intK n (k + 1) p := by
 apply List.ext_getElem?
 intro i
 by_cases e : k = i
 ·subst e
  rw [List.getElem?_set_self (by rw [intK_len]; exact hk)]
  simp [intK, hk]
 ·rw [List.getElem?_set_ne e]
  by_cases hi : i < n
  ·simp only [intK, List.getElem?_map, List.getElem?_range hi, Option.map_some]
   have : (i < k) ↔ (i < k + 1) := by omega
   simp [this]
  ·rw [List.getElem?_eq_none (by rw [intK_len]; omega), List.getElem?_eq_none (by rw [intK_len]; omega)]
theorem run_make_int (n : Nat) (hn : n ≤ 1048576) (W : World) : (Instr.makeSlice 32 (.int .i64 (n : Int)) (.int .i64 (n : Int))).run Tryz.prog W = .ok (.slice (some ⟨W.heap.size, 0, none⟩) n n) (W.alloc (.cells (madeCells #[.int .i64 0] n) 2)) := by
 obtain ⟨i0, hi0, hz0, hz1, hz2⟩ := info_parts info_int64;have h := make_row (P := Tryz.prog) 32 2 i0 _ _ n Tryz.underlying32 hi0 hz0 hz1 (by rw [hz2]; omega) (by omega) W;rw [Nat.mul_one] at h;exact h
theorem SlI.made (w : World) (n : Nat) (p : Nat → Int) : SlI (w.alloc (.cells (madeCells #[.int .i64 0] n) 2)) w.heap.size (w.heap.size + 1) (some ⟨w.heap.size, 0, none⟩) n (intK n 0 p) := by
 refine ⟨intK_len _ _ _, fun hn => ⟨w.heap.size, 0, rfl, zR, by omega, by simp, fun k x hx j u hu => ?_⟩⟩;have hk : k < n := by
  have := (List.getElem?_eq_some_iff.1 hx).1
  rwa [intK_len] at this
 have hx0 : x = 0 := by
  simp only [intK, List.getElem?_map, List.getElem?_range hk, Option.map_some] at hx
  simp at hx
  exact hx.symm
 subst hx0;have hj : j = 0 := by
  have := (List.getElem?_eq_some_iff.1 hu).1
  simp [iv] at this
  exact this
 subst hj
 simp [iv] at hu
 subst hu;have hg := heap_alloc_new w (.cells (madeCells #[.int .i64 0] n) 2);refine ⟨(cell_of_row _ _ _ _ _ (0, 0) hg).trans ?_, frozen_of_row _ _ _ _ _ hg⟩
 simp [madeCells, hk, Nat.mod_one]
theorem mul64_one (n : Nat) (hn : n ≤ 1048576) (w : World) : Calls Tryz.prog 321 #[.int .u64 1, .int .u64 n] w fun e w' => e = .returned (.tuple #[.int .u64 0, .int .u64 n]) ∧ w = w' := by
 have m1 : bits .and .u64 (1 : Int) 4294967295 = 1 := bits_and_u64_nat 1 4294967295 (by omega) (by omega);have m2 : bits .and .u64 (n : Int) 4294967295 = n := by
  have h := bits_and_u64_nat n 4294967295 (by omega) (by omega);have e : n &&& 4294967295 = n := by
   rw [Nat.and_two_pow_sub_one_eq_mod n 32];omega
  rw [e] at h;exact h
 have d1 : (n : Int) / 4294967296 = 0 := by omega
 have m0 : bits .and .u64 (0 : Int) 4294967295 = 0 := bits_and_u64_nat 0 4294967295 (by omega) (by omega);go_enter Tryz.func321, Tryz.ntmps321
 go_wp2
 go_ret2;exact ⟨by simp [m1, m2, d1, m0], rfl⟩
theorem mul_one' (n : Nat) (hn : n ≤ 1048576) (w : World) : Calls Tryz.prog 266 #[.int .u64 1, .int .u64 n] w fun e w' => e = .returned (.tuple #[.int .u64 0, .int .u64 n]) ∧ w = w' := by
 have q := hide (mul64_one n hn w);go_enter Tryz.func266, Tryz.ntmps266
 go_wp2_with (go_at_call 321; refine q.out.mono ?_; rintro e w' ⟨rfl, rfl⟩)
 go_ret2;exact ⟨rfl, rfl⟩
def rowR (v z : Value) (m n : Nat) : List Value := List.replicate m v ++ List.replicate (n - m) z
theorem rowR_len (v z : Value) {m n : Nat} (h : m ≤ n) : (rowR v z m n).length = n := by unfold rowR; simp; omega
theorem rowR_get (v z : Value) {m n j : Nat} (h : j < m) : (rowR v z m n)[j]? = some v := by
 unfold rowR;rw [List.getElem?_append_left (by simpa using h)]
 simp [h]
theorem rowR_splice (v z : Value) {m k n : Nat} (h : m + k ≤ n) : splice (rowR v z m n) m (List.replicate k v) = rowR v z (m + k) n := by
 unfold splice rowR;rw [List.take_left' (by simp), List.drop_append, List.length_replicate, List.drop_replicate, List.drop_replicate, List.length_replicate];have e1 : m - (m + k) = 0 := by omega
 have e2 : n - m - (m + k - m) = n - (m + k) := by omega
 rw [e1, e2, List.replicate_zero, List.nil_append, ← List.append_assoc, List.replicate_append_replicate]
theorem repeatB_calls (A : Option Addr) (c : Nat) (b : Bool) (n : Nat) (w : World) (lo hi : Nat) (h : SlB w lo hi A 1 [b]) (hn0 : 0 < n) (hn : n ≤ 1048576) :
  Calls Tryz.prog 207 #[.slice A 1 c, .int .i64 n] w fun e w' => ∃ A', e = .returned (.slice A' n n) ∧ SlB w' w.heap.size w'.heap.size A' n (List.replicate n b) ∧ Below w.heap.size w w' := by
 have hmk := run_make_bool n hn;obtain ⟨b1, o1, rfl, g1, g2, g3, hc⟩ := h.at_ (by omega);have c0 := (hc 0 b rfl 0 _ rfl).1;simp only [Nat.zero_mul, Nat.add_zero] at c0;have hsz : (Tryz.prog.info? 4).map (·.size) = some 1 := by kernel_rfl
 have hb0 : Below w.heap.size w (w.alloc (.cells (madeCells #[.bool false] n) 4)) := bR.alloc zR _;have c1 := (hb0.cell (p := ⟨b1, o1, none⟩) g3).trans c0;have hrow : (w.alloc (.cells (madeCells #[.bool false] n) 4)).heap[w.heap.size]? = some (.cells (rowR (.bool b) (.bool false) 0 n).toArray 4 (0, 0)) := by
  rw [heap_alloc_new]
  congr 2
  apply Array.ext'
  rw [toList_madeCells_one]
  simp [rowR]
 replace hrow := hide hrow;replace hb0 := hide hb0;replace c1 := hide c1;replace hsz := hide hsz;have hE := hide elem_bool;clear hc h;go_enter Tryz.func207, Tryz.ntmps207;go_wp2_with (first | (go_at_call 266; (with_reducible refine (mul_one' n hn _).mono ?_); rintro e w' ⟨rfl, rfl⟩) | (with_reducible refine wpList_copy_splice rfl (.tmp 31) (.tmp 32) 135 135 rfl 4 Tryz.underlying135 hsz.out (some ⟨w.heap.size, 0, none⟩) (some ⟨b1, o1, none⟩) n n 1 c rfl rfl w.heap.size 0 (rowR (.bool b) (.bool false) 0 n) 4 hrow.out [.bool b] ?k1 (fun _ => ⟨rfl, ⟨b1, o1, none⟩, rfl, ?k2⟩) ?k3 ?k4 w.heap.size w hb0.out zR ?_))
 case k1 => show 1 = min 1 n; omega
 case k2 =>
  intro j v hj
  match j, hj with
  | 0, hj => simp at hj; subst hj; simpa [Addr.add] using c1.out
 case k3 => rw [rowR_len _ _ (Nat.zero_le _)]; simp; omega
 case k4 => intro v hv; simp at hv; subst hv; rfl
 rintro w1 hr1 hb1;have hr1' : Hid (w1.heap[w.heap.size]? = some (.cells (rowR (.bool b) (.bool false) 1 n).toArray 4 (0, 0))) := by
  have := rowR_splice (.bool b) (.bool false) (m := 0) (k := 1) (n := n) (by omega);rw [List.replicate_one, Nat.zero_add] at this
  show _ = _
  rw [← this];exact hr1.out
 clear hr1 hrow hb0 c1 hmk
 go_wp2
 go_loopg [8] n (fun N m wr => ∃ k : Nat, 1 ≤ k ∧ k ≤ n ∧ m = .int .i64 k ∧ Hid (wr.heap[w.heap.size]? = some (.cells (rowR (.bool b) (.bool false) k n).toArray 4 (0, 0))) ∧ Below w.heap.size w wr ∧ Hid (n - k ≤ N))
 case atStart => exact ⟨1, zR, hn0, rfl, hr1', hb1, by show _ ≤ _; omega⟩
 case round =>
  obtain ⟨k, hk1, hk, rfl, hr, hb, hN⟩ := hrel;clear hr1' hb1
  by_cases hlt : k < n
  ·have hcut : ∀ W : World, (Instr.slice 135 (.slice (some ⟨w.heap.size, 0, none⟩) n n) (some (.int .i64 (k : Int))) none none).run Tryz.prog W = .ok (.slice (some ⟨w.heap.size, k, none⟩) (n - k) (n - k)) W := fun W => by
    rw [run_cut elem_bool (some ⟨w.heap.size, 0, none⟩) n n k hk W];unfold cutA;rw [if_neg (by omega), Option.map_some, addr_add, Nat.zero_add, Nat.mul_one]
   have hhead : ∀ W : World, (Instr.slice 135 (.slice (some ⟨w.heap.size, 0, none⟩) n n) none (some (.int .i64 (k : Int))) none).run Tryz.prog W = .ok (.slice (some ⟨w.heap.size, 0, none⟩) k n) W := fun W => run_head elem_bool (some ⟨w.heap.size, 0, none⟩) n n k hk W
   have hzw := hide ((Array.getElem?_eq_some_iff.1 hr.out).1);have i1 : (0 : Int) ≤ (k : Int) := by omega
   have i2 : (k : Int) ≤ (n : Int) := by omega
   obtain ⟨N2, rfl⟩ : ∃ N2, gk = N2 + 1 := ⟨gk - 1, by have := hN.out; omega⟩;have k2 : Hid (∀ j v, (List.replicate (Nat.min k (n - k)) (Value.bool b))[j]? = some v → wr.drew.cell? ((⟨w.heap.size, 0, none⟩ : Addr).add j) = some v) := by
    intro j v hj;have hjk : j < Nat.min k (n - k) := by
     have := (List.getElem?_eq_some_iff.1 hj).1
     simpa using this
    have hjk2 : j < k := Nat.lt_of_lt_of_le hjk (Nat.min_le_left _ _);have hv : v = .bool b := List.eq_of_mem_replicate (List.mem_of_getElem? hj);subst hv;rw [addr_add, Nat.zero_add];refine (cell_of_row _ _ _ _ _ (0, 0) (show wr.drew.heap[w.heap.size]? = _ from hr.out)).trans ?_
    simpa using rowR_get _ _ hjk2
   have k3 : Hid (k + (List.replicate (Nat.min k (n - k)) (Value.bool b)).length ≤ (rowR (.bool b) (.bool false) k n).length) := by
    show _ ≤ _
    rw [rowR_len _ _ hk, List.length_replicate]; have : Nat.min k (n - k) ≤ n - k := Nat.min_le_right k (n - k); omega
   have k4 : Hid (∀ v, v ∈ List.replicate (Nat.min k (n - k)) (Value.bool b) → v.oneCell' = true) := fun v hv => by rw [List.eq_of_mem_replicate hv]; rfl
   have k5 : Hid (wr.drew.heap[w.heap.size]? = some (.cells (rowR (.bool b) (.bool false) k n).toArray 4 (0, 0))) := hr.out;have k6 := hide hb.drew
   go_wp2
   go_region_law (refine step_copy_splice (by rfl) (.tmp 41) (.tmp 44) 135 135 (by rfl) 4 Tryz.underlying135 hsz.out (some ⟨w.heap.size, k, none⟩) (some ⟨w.heap.size, 0, none⟩) (n - k) (n - k) k n (by go_simp) (by go_simp) w.heap.size k (rowR (.bool b) (.bool false) k n) 4 k5.out (List.replicate (Nat.min k (n - k)) (.bool b)) (List.length_replicate ..) (fun _ => ⟨rfl, ⟨w.heap.size, 0, none⟩, rfl, k2.out⟩) k3.out k4.out w.heap.size w k6.out zR ?_; intro w2 hr2 hb2)
   have hmn : k + Nat.min k (n - k) ≤ n := by have : Nat.min k (n - k) ≤ n - k := Nat.min_le_right k (n - k); omega
   have hmp : 1 ≤ Nat.min k (n - k) := by show 1 ≤ min k (n - k); omega
   have hr2' : Hid (w2.heap[w.heap.size]? = some (.cells (rowR (.bool b) (.bool false) (k + Nat.min k (n - k)) n).toArray 4 (0, 0))) := by
    show _ = _
    rw [← rowR_splice (.bool b) (.bool false) hmn];exact hr2.out
   clear hr2 hcut hhead
   try simp only [List.length_replicate, goInt]
   generalize Nat.min k (n - k) = q at *
   go_wp2
   go_roundg N2
   case measure => omega
   case rel => exact ⟨k + q, by omega, hmn, by rw [IntWalk.i64_in _ (by omega)]; go_num, hr2', hb2, by show _ ≤ _; have := hN.out; omega⟩
  ·have hkn : k = n := by omega
   subst hkn;have hzw := (Array.getElem?_eq_some_iff.1 hr.out).1
   go_wp2
   go_ret;refine ⟨_, rfl, ⟨by simp, fun _ => ⟨w.heap.size, 0, rfl, zR, hzw, hzw, fun i x hx j u hu => ?_⟩⟩, hb⟩
   have hik : i < k := by
    have := (List.getElem?_eq_some_iff.1 hx).1
    simpa using this
   have hxb : x = b := List.eq_of_mem_replicate (List.mem_of_getElem? hx);subst hxb;have hj : j = 0 := by
    have := (List.getElem?_eq_some_iff.1 hu).1
    simp [bv] at this
    exact this
   subst hj
   simp [bv] at hu
   subst hu;refine ⟨(cell_of_row _ _ _ _ _ (0, 0) hr.out).trans ?_, frozen_of_row _ _ _ _ _ hr.out⟩;have := rowR_get (.bool x) (.bool false) (m := k) (n := k) hik
   simpa using this
theorem repeatI_calls (A : Option Addr) (c : Nat) (b : Int) (n : Nat) (w : World) (lo hi : Nat) (h : SlI w lo hi A 1 [b]) (hn0 : 0 < n) (hn : n ≤ 1048576) :
  Calls Tryz.prog 221 #[.slice A 1 c, .int .i64 n] w fun e w' => ∃ A', e = .returned (.slice A' n n) ∧ SlI w' w.heap.size w'.heap.size A' n (List.replicate n b) ∧ Below w.heap.size w w' := by
 have hmk := run_make_int n hn;obtain ⟨b1, o1, rfl, g1, g2, g3, hc⟩ := h.at_ (by omega);have c0 := (hc 0 b rfl 0 _ rfl).1;simp only [Nat.zero_mul, Nat.add_zero] at c0;have hsz : (Tryz.prog.info? 2).map (·.size) = some 1 := by kernel_rfl
 have hb0 : Below w.heap.size w (w.alloc (.cells (madeCells #[.int .i64 0] n) 2)) := bR.alloc zR _;have c1 := (hb0.cell (p := ⟨b1, o1, none⟩) g3).trans c0;have hrow : (w.alloc (.cells (madeCells #[.int .i64 0] n) 2)).heap[w.heap.size]? = some (.cells (rowR (.int .i64 b) (.int .i64 0) 0 n).toArray 2 (0, 0)) := by
  rw [heap_alloc_new]
  congr 2
  apply Array.ext'
  rw [toList_madeCells_one]
  simp [rowR]
 replace hrow := hide hrow;replace hb0 := hide hb0;replace c1 := hide c1;replace hsz := hide hsz;have hE := hide elem_int64;clear hc h;go_enter Tryz.func221, Tryz.ntmps221;go_wp2_with (first | (go_at_call 266; (with_reducible refine (mul_one' n hn _).mono ?_); rintro e w' ⟨rfl, rfl⟩) | (with_reducible refine wpList_copy_splice rfl (.tmp 31) (.tmp 32) 32 32 rfl 2 Tryz.underlying32 hsz.out (some ⟨w.heap.size, 0, none⟩) (some ⟨b1, o1, none⟩) n n 1 c rfl rfl w.heap.size 0 (rowR (.int .i64 b) (.int .i64 0) 0 n) 2 hrow.out [.int .i64 b] ?k1 (fun _ => ⟨rfl, ⟨b1, o1, none⟩, rfl, ?k2⟩) ?k3 ?k4 w.heap.size w hb0.out zR ?_))
 case k1 => show 1 = min 1 n; omega
 case k2 =>
  intro j v hj
  match j, hj with
  | 0, hj => simp at hj; subst hj; simpa [Addr.add] using c1.out
 case k3 => rw [rowR_len _ _ (Nat.zero_le _)]; simp; omega
 case k4 => intro v hv; simp at hv; subst hv; rfl
 rintro w1 hr1 hb1;have hr1' : Hid (w1.heap[w.heap.size]? = some (.cells (rowR (.int .i64 b) (.int .i64 0) 1 n).toArray 2 (0, 0))) := by
  have := rowR_splice (.int .i64 b) (.int .i64 0) (m := 0) (k := 1) (n := n) (by omega);rw [List.replicate_one, Nat.zero_add] at this
  show _ = _
  rw [← this];exact hr1.out
 clear hr1 hrow hb0 c1 hmk
 go_wp2
 go_loopg [8] n (fun N m wr => ∃ k : Nat, 1 ≤ k ∧ k ≤ n ∧ m = .int .i64 k ∧ Hid (wr.heap[w.heap.size]? = some (.cells (rowR (.int .i64 b) (.int .i64 0) k n).toArray 2 (0, 0))) ∧ Below w.heap.size w wr ∧ Hid (n - k ≤ N))
 case atStart => exact ⟨1, zR, hn0, rfl, hr1', hb1, by show _ ≤ _; omega⟩
 case round =>
  obtain ⟨k, hk1, hk, rfl, hr, hb, hN⟩ := hrel;clear hr1' hb1
  by_cases hlt : k < n
  ·have hcut : ∀ W : World, (Instr.slice 32 (.slice (some ⟨w.heap.size, 0, none⟩) n n) (some (.int .i64 (k : Int))) none none).run Tryz.prog W = .ok (.slice (some ⟨w.heap.size, k, none⟩) (n - k) (n - k)) W := fun W => by
    rw [run_cut elem_int64 (some ⟨w.heap.size, 0, none⟩) n n k hk W];unfold cutA;rw [if_neg (by omega), Option.map_some, addr_add, Nat.zero_add, Nat.mul_one]
   have hhead : ∀ W : World, (Instr.slice 32 (.slice (some ⟨w.heap.size, 0, none⟩) n n) none (some (.int .i64 (k : Int))) none).run Tryz.prog W = .ok (.slice (some ⟨w.heap.size, 0, none⟩) k n) W := fun W => run_head elem_int64 (some ⟨w.heap.size, 0, none⟩) n n k hk W
   have hzw := hide ((Array.getElem?_eq_some_iff.1 hr.out).1);have i1 : (0 : Int) ≤ (k : Int) := by omega
   have i2 : (k : Int) ≤ (n : Int) := by omega
   obtain ⟨N2, rfl⟩ : ∃ N2, gk = N2 + 1 := ⟨gk - 1, by have := hN.out; omega⟩;have k2 : Hid (∀ j v, (List.replicate (Nat.min k (n - k)) (Value.int .i64 b))[j]? = some v → wr.drew.cell? ((⟨w.heap.size, 0, none⟩ : Addr).add j) = some v) := by
    intro j v hj;have hjk : j < Nat.min k (n - k) := by
     have := (List.getElem?_eq_some_iff.1 hj).1
     simpa using this
    have hjk2 : j < k := Nat.lt_of_lt_of_le hjk (Nat.min_le_left _ _);have hv : v = .int .i64 b := List.eq_of_mem_replicate (List.mem_of_getElem? hj);subst hv;rw [addr_add, Nat.zero_add];refine (cell_of_row _ _ _ _ _ (0, 0) (show wr.drew.heap[w.heap.size]? = _ from hr.out)).trans ?_
    simpa using rowR_get _ _ hjk2
   have k3 : Hid (k + (List.replicate (Nat.min k (n - k)) (Value.int .i64 b)).length ≤ (rowR (.int .i64 b) (.int .i64 0) k n).length) := by
    show _ ≤ _
    rw [rowR_len _ _ hk, List.length_replicate]; have : Nat.min k (n - k) ≤ n - k := Nat.min_le_right k (n - k); omega
   have k4 : Hid (∀ v, v ∈ List.replicate (Nat.min k (n - k)) (Value.int .i64 b) → v.oneCell' = true) := fun v hv => by rw [List.eq_of_mem_replicate hv]; rfl
   have k5 : Hid (wr.drew.heap[w.heap.size]? = some (.cells (rowR (.int .i64 b) (.int .i64 0) k n).toArray 2 (0, 0))) := hr.out;have k6 := hide hb.drew
   go_wp2
   go_region_law (refine step_copy_splice (by rfl) (.tmp 41) (.tmp 44) 32 32 (by rfl) 2 Tryz.underlying32 hsz.out (some ⟨w.heap.size, k, none⟩) (some ⟨w.heap.size, 0, none⟩) (n - k) (n - k) k n (by go_simp) (by go_simp) w.heap.size k (rowR (.int .i64 b) (.int .i64 0) k n) 2 k5.out (List.replicate (Nat.min k (n - k)) (.int .i64 b)) (List.length_replicate ..) (fun _ => ⟨rfl, ⟨w.heap.size, 0, none⟩, rfl, k2.out⟩) k3.out k4.out w.heap.size w k6.out zR ?_; intro w2 hr2 hb2)
   have hmn : k + Nat.min k (n - k) ≤ n := by have : Nat.min k (n - k) ≤ n - k := Nat.min_le_right k (n - k); omega
   have hmp : 1 ≤ Nat.min k (n - k) := by show 1 ≤ min k (n - k); omega
   have hr2' : Hid (w2.heap[w.heap.size]? = some (.cells (rowR (.int .i64 b) (.int .i64 0) (k + Nat.min k (n - k)) n).toArray 2 (0, 0))) := by
    show _ = _
    rw [← rowR_splice (.int .i64 b) (.int .i64 0) hmn];exact hr2.out
   clear hr2 hcut hhead
   try simp only [List.length_replicate, goInt]
   generalize Nat.min k (n - k) = q at *
   go_wp2
   go_roundg N2
   case measure => omega
   case rel => exact ⟨k + q, by omega, hmn, by rw [IntWalk.i64_in _ (by omega)]; go_num, hr2', hb2, by show _ ≤ _; have := hN.out; omega⟩
  ·have hkn : k = n := by omega
   subst hkn;have hzw := (Array.getElem?_eq_some_iff.1 hr.out).1
   go_wp2
   go_ret;refine ⟨_, rfl, ⟨by simp, fun _ => ⟨w.heap.size, 0, rfl, zR, hzw, hzw, fun i x hx j u hu => ?_⟩⟩, hb⟩
   have hik : i < k := by
    have := (List.getElem?_eq_some_iff.1 hx).1
    simpa using this
   have hxb : x = b := List.eq_of_mem_replicate (List.mem_of_getElem? hx);subst hxb;have hj : j = 0 := by
    have := (List.getElem?_eq_some_iff.1 hu).1
    simp [iv] at this
    exact this
   subst hj
   simp [iv] at hu
   subst hu;refine ⟨(cell_of_row _ _ _ _ _ (0, 0) hr.out).trans ?_, frozen_of_row _ _ _ _ _ hr.out⟩;have := rowR_get (.int .i64 x) (.int .i64 0) (m := k) (n := k) hik
   simpa using this
def OwnQ (w : World) (base : Nat) (A : Option Addr) (n c : Nat) (l : List Int) : Prop :=
 l.length = n ∧ ((A = none ∧ n = 0 ∧ c = 0) ∨ ∃ g off cur, A = some ⟨g, off, none⟩ ∧ base ≤ g ∧ w.heap[g]? = some (.cells cur 2 (0, 0)) ∧ n ≤ c ∧ c ≤ maxLen ∧ off + c ≤ cur.size ∧ ∀ (i : Nat) (x : Int), l[i]? = some x → cur[off + i]? = some (.int .i64 x))
section
variable {w w' : World} {base n c : Nat} {A : Option Addr} {l : List Int}
theorem OwnQ.len (h : OwnQ w base A n c l) : l.length = n := h.1
theorem OwnQ.of (h : Own 1 iv w base 2 A n c l) : OwnQ w base A n c l := by
 refine ⟨h.1, ?_⟩
 rcases h.2.2 with ⟨hv, h0⟩ | ⟨g, cap, cur, hv, hb, hg, hnc, hcm, hcs, htake⟩
 ·injection hv with h1 _ h3
  exact .inl ⟨h1, h0, h3⟩
 ·injection hv with h1 _ h3
  subst h1 h3;refine .inr ⟨g, 0, cur, rfl, hb, hg, hnc, hcm, by omega, fun i x hx => ?_⟩;have h1 := flat_at flat_iv l i x hx 0 _ rfl;rw [← htake] at h1;rw [List.getElem?_take] at h1
  split at h1
  ·simpa using h1
  ·cases h1
theorem OwnQ.keep (h : OwnQ w base A n c l) (hk : ∀ g, base ≤ g → (Value.slice A n c).ownBlock = some g → w'.heap[g]? = w.heap[g]?) : OwnQ w' base A n c l := by
 refine ⟨h.1, ?_⟩
 rcases h.2 with hn | ⟨g, off, cur, rfl, hb, hg, rest⟩
 ·exact .inl hn
 ·exact .inr ⟨g, off, cur, rfl, hb, (hk g hb rfl).trans hg, rest⟩
theorem OwnQ.lt (h : OwnQ w base A n c l) : ∀ g, (Value.slice A n c).ownBlock = some g → base ≤ g ∧ g < w.heap.size := by
 intro g hg
 rcases h.2 with ⟨rfl, _⟩ | ⟨g', off, cur, rfl, hb, hg', rest⟩
 ·cases hg
 ·cases hg
  exact ⟨hb, (Array.getElem?_eq_some_iff.1 hg').1⟩
theorem OwnQ.kept {row : Option Nat} (h : OwnQ w base A n c l) (hg : w.grownBy w' row) (hne : (Value.slice A n c).ownBlock = none ∨ (Value.slice A n c).ownBlock ≠ row) : OwnQ w' base A n c l :=
 h.keep fun g _ e => hg.block g (h.lt g e).2 (by
  rcases hne with hne | hne
  ·rw [e] at hne; cases hne
  ·rw [e] at hne; exact hne)
theorem OwnQ.alloc (h : OwnQ w base A n c l) (o : Obj) : OwnQ (w.alloc o) base A n c l := h.kept (World.grownBy_alloc w o none) (by cases (Value.slice A n c).ownBlock <;> simp)
theorem OwnQ.drewN (h : OwnQ w base A n c l) (k : Nat) : OwnQ (w.drewN k) base A n c l := h
theorem OwnQ.head {x : Int} {r : List Int} (h : OwnQ w base A n c (x :: r)) : ∃ g off, A = some ⟨g, off, none⟩ ∧ w.cell? ⟨g, off, none⟩ = some (.int .i64 x) ∧ 0 < n ∧ n ≤ c := by
 have hl := h.1
 simp at hl
 rcases h.2 with ⟨rfl, h0, _⟩ | ⟨g, off, cur, rfl, hb, hg, h1, h2, h3, h4⟩
 ·omega
 ·refine ⟨g, off, rfl, (cell_of_row w g off cur _ (0, 0) hg).trans ?_, by omega, h1⟩
  have := h4 0 x rfl
  simpa using this
theorem OwnQ.cut {x : Int} {r : List Int} (h : OwnQ w base A n c (x :: r)) : OwnQ w base (cutA A 1 c 1) (n - 1) (c - 1) r := by
 have hl := h.1
 simp at hl
 rcases h.2 with ⟨rfl, h0, _⟩ | ⟨g, off, cur, rfl, hb, hg, h1, h2, h3, h4⟩
 ·omega
 ·refine ⟨by omega, .inr ?_⟩
  by_cases hc : c = 1
  ·subst hc
   refine ⟨g, off, cur, by simp [cutA], hb, hg, by omega, by unfold maxLen; omega, by omega, fun i y hy => ?_⟩;have hr : r = [] := List.eq_nil_of_length_eq_zero (by omega);subst hr
   simp at hy
  ·refine ⟨g, off + 1, cur, by unfold cutA; rw [if_neg hc, Option.map_some, addr_add], hb, hg, by omega, by omega, by omega, fun i y hy => ?_⟩
   have := h4 (i + 1) y (by simpa using hy);rw [show off + 1 + i = off + (i + 1) by omega];exact this
end
theorem run_appQ (w : World) (ty : TypeId) {base n c : Nat} {A : Option Addr} {l : List Int} (h : OwnQ w base A n c l) (ad : Addr) (d : Nat) (x : Int) (hx : w.cell? ad = some (.int .i64 x)) (hn : n + 1 ≤ 1048576) (hbase : base ≤ w.heap.size) :
  ∃ A' c' w', (Builtin.append_ #[32, 32] ty #[.slice A n c, .slice (some ad) 1 d]).run Tryz.prog w = .ok (.slice A' (n + 1) c') w' ∧ OwnQ w' base A' (n + 1) c' (l ++ [x]) ∧ w.grownBy w' (Value.slice A n c).ownBlock ∧
   ((Value.slice A' (n + 1) c').ownBlock = (Value.slice A n c).ownBlock ∨ (Value.slice A' (n + 1) c').ownBlock = some w.heap.size) := by
 obtain ⟨i, hi, hz, hs, hby⟩ := info_parts info_int64;have ht := Tryz.underlying32;have hnews : ∀ j u, ([Value.int .i64 x] : List Value)[j]? = some u → w.cell? (ad.add j) = some u := by
  intro j u hj
  match j, hj with
  | 0, hj => simp at hj; subst hj; simpa [Addr.add] using hx
 have hzc : (Value.int .i64 0).cells.size = 1 := rfl;have grown : ∀ (old : Nat) (olds : List Value), olds = l.map (Value.int .i64) → old < n + 1 → ∀ row : Option Nat,
   OwnQ (w.drew.alloc (.cells (olds.toArray ++ [Value.int .i64 x].toArray ++ Builtin.zeroCells (Value.int .i64 0).cells (grownCap w (n + 1) old 2 - (n + 1))) 2)) base (some ⟨w.heap.size, 0, none⟩) (n + 1) (grownCap w (n + 1) old 2) (l ++ [x]) ∧
   w.grownBy (w.drew.alloc (.cells (olds.toArray ++ [Value.int .i64 x].toArray ++ Builtin.zeroCells (Value.int .i64 0).cells (grownCap w (n + 1) old 2 - (n + 1))) 2)) row := by
  intro old olds hol ho row;have hge := grownCap_ge w (n + 1) old 2;have hcm : grownCap w (n + 1) old 2 ≤ maxLen := grownCap_le_maxLen w (n + 1) old 2 (by unfold maxLen; omega);refine ⟨⟨by rw [List.length_append, h.1]; rfl, .inr ⟨w.heap.size, 0, _, rfl, hbase, heap_alloc_new w.drew _, hge, hcm, ?_, fun i y hy => ?_⟩⟩, ⟨rfl, rfl, rfl, by simp, fun k hk _ => Below.heap_alloc w.drew _ k hk⟩⟩
  ·simp only [Array.size_append, List.size_toArray, size_zeroCells, hzc, hol, List.length_map, h.1, List.length_singleton]
   omega
  ·have hil : i < n + 1 := by
    have := (List.getElem?_eq_some_iff.1 hy).1;rw [List.length_append, h.1] at this
    simpa using this
   have e1 : (olds.toArray ++ [Value.int .i64 x].toArray : Array Value) = ((l ++ [x]).map (Value.int .i64)).toArray := by rw [hol]; simp
   rw [Nat.zero_add, Array.getElem?_append_left (by rw [e1]; simp [h.1]; omega), e1];simp only [List.getElem?_toArray, List.getElem?_map, hy, Option.map_some]
 rcases h.2 with ⟨rfl, rfl, rfl⟩ | ⟨g, off, cur, rfl, hb, hg, hnc, hcm, hcs, hcur⟩
 ·have hl : l = [] := List.eq_nil_of_length_eq_zero h.1
  subst hl;have hr := run_append_nil (P := Tryz.prog) w 32 ty 2 i _ ht hi hz ad 1 d [.int .i64 x] (by rw [hs]; rfl) hnews (by omega) (by omega) (by rw [hby]; omega);obtain ⟨g1, g2⟩ := grown 0 [] rfl (by omega) (Value.ownBlock (.slice none 0 0));simp only [Nat.zero_add, Array.empty_append] at g1 g2 ⊢;exact ⟨_, _, _, hr, g1, g2, .inr rfl⟩
 ·by_cases hroom : n + 1 ≤ c
  ·have hcell : (w.cell? ⟨g, off + n, none⟩).isSome = true := by
    rw [cell_of_row w g _ cur _ (0, 0) hg, Array.getElem?_eq_getElem (by omega)]
    rfl
   have hr := run_append_room_cells (P := Tryz.prog) w 32 ty 2 i ht hi g off n c ad 1 d [.int .i64 x] (by rw [hs]; rfl) hnews (by intro u hu; simp at hu; subst hu; rfl) hroom
    (fun j hj => by
     simp at hj
     subst hj;rw [hs, Nat.mul_one, Nat.add_zero];exact hcell) (fun j hj => frozen_of_row w g _ cur _ hg)
   refine ⟨_, _, _, hr, ?_, ?_, .inl rfl⟩
   ·rw [hs, Nat.mul_one]
    show OwnQ (w.setCell ⟨g, off + n, none⟩ (.int .i64 x)) base _ _ _ _
    refine ⟨by rw [List.length_append, h.1]; rfl, .inr ⟨g, off, cur.setIfInBounds (off + n) (.int .i64 x), rfl, hb, heap_setCell_same w g _ cur _ _ hg, hroom, hcm, by simpa using hcs, fun i y hy => ?_⟩⟩
    by_cases hin : i < n
    ·rw [Array.getElem?_setIfInBounds_ne (by omega)]
     rw [List.getElem?_append_left (by rw [h.1]; exact hin)] at hy;exact hcur i y hy
    ·have : i = n := by
      have := (List.getElem?_eq_some_iff.1 hy).1;rw [List.length_append, h.1] at this
      simp at this
      omega
     subst this;rw [List.getElem?_append_right (by rw [h.1]; exact zR), h.1, Nat.sub_self] at hy
     simp at hy
     subst hy
     simp [Array.getElem?_setIfInBounds]
     omega
   ·rw [hs, Nat.mul_one]
    show w.grownBy (w.setCell ⟨g, off + n, none⟩ (.int .i64 x)) _
    exact ⟨rfl, rfl, rfl, by rw [World.size_setCell]; exact zR, fun k hk hne => Below.heap_setCell w _ _ k (fun e => hne (by rw [e]; rfl))⟩
  ·have holds : ∀ j u, (l.map (Value.int .i64))[j]? = some u → w.cell? ((⟨g, off, none⟩ : Addr).add j) = some u := by
    intro j u hj;rw [List.getElem?_map] at hj;obtain ⟨y, hy, rfl⟩ := Option.map_eq_some_iff.1 hj;rw [addr_add, cell_of_row w g _ cur _ (0, 0) hg];exact hcur j y hy
   have hr := run_append_grow (P := Tryz.prog) w 32 ty 2 i _ ht hi hz ⟨g, off, none⟩ n c (l.map (Value.int .i64)) (by rw [List.length_map, h.1, hs, Nat.mul_one]) holds ad 1 d [.int .i64 x] (by rw [hs]; rfl) hnews (by omega) (by omega) (growslice_fits (by omega) (by rw [hby]; omega));obtain ⟨g1, g2⟩ := grown c _ rfl (by omega) (Value.ownBlock (.slice (some ⟨g, off, none⟩) n c));exact ⟨_, _, _, hr, g1, g2, .inr rfl⟩
theorem wpList_appQ {w : World} {ops : Array Oper} {rest : List Oper} {o : Oper} {a : Act} {Q : Exit → Act → World → Prop} (hgd : o.guard = none) (s x : Operand)
  (ho : o.op = .call { callee := .builtin .append, args := #[s, x], argTypes := #[32, 32] })
  {base n c : Nat} {A : Option Addr} {l : List Int} (hs : a.eval s = .slice A n c) (h : OwnQ w base A n c l) (ad : Addr) (d : Nat) (y : Int) (hx : a.eval x = .slice (some ad) 1 d) (hy : w.cell? ad = some (.int .i64 y)) (hn : n + 1 ≤ 1048576) (hbase : base ≤ w.heap.size)
  (hK : ∀ A' c' w', OwnQ w' base A' (n + 1) c' (l ++ [y]) → w.grownBy w' (Value.slice A n c).ownBlock → Below base w w' →
   ((Value.slice A' (n + 1) c').ownBlock = (Value.slice A n c).ownBlock ∨ (Value.slice A' (n + 1) c').ownBlock = some w.heap.size) → wpList Tryz.prog ops Q rest (a.put o.dst (.slice A' (n + 1) c')) w') : wpList Tryz.prog ops Q (o :: rest) a w := by
 refine wpList_plain hgd fun K hK' => ?_
 obtain ⟨A', c', w', h1, h2, h3, h4⟩ := run_appQ w o.type h ad d y hy hn hbase;unfold Oper.wp execOp;simp only [ho, resolve, invoke, builtin, Sem.run_bind, Sem.run_pure, Result.andThen_ok, List.map_toArray, List.map_cons, List.map_nil, hs, hx, h1];exact hK' _ _ (hK A' c' w' h2 h3 (bR.grown h3 hbase fun k hk => (h.lt k hk).1) h4)
open Go.Sort
theorem cloneO_calls (A : Option Addr) (n c : Nat) (l : List Int) (w : World) (lo hi : Nat) (h : SlI w lo hi A n l) (hn : n ≤ 1048576) :
  Calls Tryz.prog 194 #[.slice A n c] w fun e w' => ∃ A' c', e = .returned (.slice A' n c') ∧ Own 1 iv w' w.heap.size 2 A' n c' l ∧ Below w.heap.size w w' := by
 have hnil : ∀ (W : World) (a : Option Addr) (m d : Nat), (binOp .eql 32 (.slice a m d) (.slice none 0 0)).run Tryz.prog W = .ok (.bool a.isNone) W := fun W a m d => Lib.run_eql_slice_nil W 32 _ a m d 0 0 Tryz.underlying32
 have hE := hide elem_int64
 cases A with
 | none =>
  have hn0 : n = 0 := by
   rcases Nat.eq_zero_or_pos n with h0 | h0
   ·exact h0
   ·obtain ⟨b, off, e, _⟩ := h.at_ h0
    cases e
  subst hn0;have hl := List.eq_nil_of_length_eq_zero h.len;subst hl;go_enter Tryz.func194, Tryz.ntmps194;go_wp2_with fail;go_ret;exact ⟨none, 0, rfl, Own.nil_ _ _ _, bR⟩
 | some a =>
  have hs := hide (h.below ((Below.refl w.heap.size w).alloc zR (.cells #[] 2)) (.inr zR));have hz : w.heap.size ≤ (w.alloc (.cells #[] 2)).heap.size := by simp
  clear h;go_enter Tryz.func194, Tryz.ntmps194;go_wp2_with (first | (at_builtin; (with_reducible refine wpList_app rfl (.tmp 5) (.tmp 6) rfl hE.out flat_iv rfl (Own.made w 2 zR) rfl hs.out ?c1 hz ?_); rotate_right; intro A2 c2 w2 hown2 hgr2 hb2 _))
  case c1 => omega
  go_ret;rw [Nat.zero_add, List.nil_append] at hown2
  exact ⟨_, _, rfl, hown2, (bR.alloc zR _).trans hb2⟩
theorem Sl.tight' {α : Type} {size : Nat} {f : α → List Value} {w : World} {lo hi n b off : Nat} {l : List α} (h : Sl size f w lo hi (some ⟨b, off, none⟩) n l) (hn : 0 < n) : Sl size f w b (b + 1) (some ⟨b, off, none⟩) n l := by
 refine ⟨h.len, fun _ => ?_⟩;obtain ⟨b', off', e, g1, g2, g3, hc⟩ := h.at_ hn
 cases e
 exact ⟨b, off, rfl, zR, Nat.lt_succ_self _, g3, hc⟩
structure MemD (W : World) (bo oo n : Nat) (out : List Int) (qb : Nat) (A : Option Addr) (q c : Nat) (todo : List Int) : Prop where
 out : SlI W bo (bo + 1) (some ⟨bo, oo, none⟩) n out
 que : OwnQ W qb A q c todo
 o1 : bo < qb
 o2 : qb ≤ W.heap.size
section
variable {W W' : World} {bo oo n qb q c : Nat} {out : List Int} {A : Option Addr} {todo : List Int}
theorem MemD.put (h : MemD W bo oo n out qb A q c todo) {k : Nat} (hk : k < n) (x : Int) : MemD (W.setCell ⟨bo, oo + k, none⟩ (.int .i64 x)) bo oo n (out.set k x) qb A q c todo :=
 ⟨SlI.put' h.out hk x, h.que.keep fun g hg _ => Below.heap_setCell _ _ _ _ (by have := h.o1; show g ≠ bo; omega), h.o1, by rw [World.size_setCell]; exact h.o2⟩
theorem MemD.alloc (h : MemD W bo oo n out qb A q c todo) (o : Obj) : MemD (W.alloc o) bo oo n out qb A q c todo := by
 have h1 := h.o1;have h2 := h.o2;exact ⟨Sl.keep h.out (by simp) fun b _ _ hb => Below.heap_alloc _ _ _ hb, h.que.alloc o, h1, by simp; omega⟩
theorem MemD.drewN (h : MemD W bo oo n out qb A q c todo) (k : Nat) : MemD (W.drewN k) bo oo n out qb A q c todo := ⟨h.out.drewN k, h.que.drewN k, h.o1, h.o2⟩
theorem MemD.app (h : MemD W bo oo n out qb A q c todo) {A' : Option Addr} {q' c' : Nat} {todo' : List Int} (hq : OwnQ W' qb A' q' c' todo') (hg : W.grownBy W' (Value.slice A q c).ownBlock) : MemD W' bo oo n out qb A' q' c' todo' := by
 have h1 := h.o1;have h2 := h.o2;have hne : ∀ b, b < qb → some b ≠ (Value.slice A q c).ownBlock := fun b hb e => by
  have := (h.que.lt b e.symm).1;omega
 exact ⟨Sl.keep h.out hg.size fun b hb1 hb2 hb3 => hg.block b hb3 (hne b (by omega)), hq, h1, Nat.le_trans h2 hg.size⟩
theorem MemD.cut {x : Int} (h : MemD W bo oo n out qb A q c (x :: todo)) : MemD W bo oo n out qb (cutA A 1 c 1) (q - 1) (c - 1) todo := ⟨h.out, h.que.cut, h.o1, h.o2⟩
end
def Marks (N : Nat) (l : List Int) (k : Nat) (out : List Int) : Prop := out.length = N ∧ ∀ (j : Nat) (x : Int), out[j]? = some x → (x = 0 ∧ (j : Int) ∈ l.take k) ∨ (x = -1 ∧ ¬ (j : Int) ∈ l.take k)
theorem Marks.zero (N : Nat) (l : List Int) : Marks N l 0 (List.replicate N (-1)) := by
 refine ⟨by simp, fun j x hx => .inr ⟨?_, by simp⟩⟩;exact List.eq_of_mem_replicate (List.mem_of_getElem? hx)
theorem Marks.step {N : Nat} {l : List Int} {k v : Nat} {out : List Int} (h : Marks N l k out) (hx : l[k]? = some (v : Int)) : Marks N l (k + 1) (out.set v 0) := by
 refine ⟨by rw [List.length_set]; exact h.1, fun j x hj => ?_⟩;have hmem : ∀ i : Nat, (i : Int) ∈ l.take (k + 1) ↔ (i : Int) ∈ l.take k ∨ i = v := fun i => by
  rw [List.take_add_one, hx, List.mem_append]
  constructor
  ·rintro (h1 | h1)
   ·exact .inl h1
   ·simp at h1
    exact .inr (by omega)
  ·rintro (h1 | h1)
   ·exact .inl h1
   ·subst h1
    exact .inr (by simp)
 by_cases e : v = j
 ·subst e
  have hl : v < out.length := by
   have := (List.getElem?_eq_some_iff.1 hj).1
   rwa [List.length_set] at this
  rw [List.getElem?_set_self hl] at hj;exact .inl ⟨(Option.some.inj hj).symm, (hmem v).2 (.inr rfl)⟩
 ·rw [List.getElem?_set_ne e] at hj
  rcases h.2 j x hj with ⟨h1, h2⟩ | ⟨h1, h2⟩
  ·exact .inl ⟨h1, (hmem j).2 (.inl h2)⟩
  ·exact .inr ⟨h1, fun hc => by
    rcases (hmem j).1 hc with h3 | h3
    ·exact h2 h3
    ·exact e h3.symm⟩
theorem Marks.all {N n : Nat} {l : List Int} {out : List Int} (h : Marks N l n out) (hl : l.length ≤ n) : ∀ (j : Nat) (x : Int), out[j]? = some x → (x = 0 ∧ srcE l j) ∨ (x = -1 ∧ ¬ srcE l j) := fun j x hx => by
 have := h.2 j x hx
 rwa [List.take_of_length_le hl] at this
def FoundE (fw : Bool) (es : List Ed) (i : Nat) (k : Nat) (out : List Int) : Prop := ∀ b, arcE fw (es.take i) k b → ∃ y : Int, out[b]? = some y ∧ 0 ≤ y
theorem arc_take_succ {fw : Bool} {es : List Ed} {i : Nat} {e : Ed} (hx : es[i]? = some e) {a b : Nat} (h : arcE fw (es.take (i + 1)) a b) : arcE fw (es.take i) a b ∨ (if fw = true then e.1 = (a : Int) ∧ e.2.2 = (b : Int) else e.2.2 = (a : Int) ∧ e.1 = (b : Int)) := by
 obtain ⟨e', hm, h⟩ := h;rw [List.take_add_one, hx, List.mem_append] at hm
 rcases hm with hm | hm
 ·exact .inl ⟨e', hm, h⟩
 ·simp at hm
  subst hm;exact .inr h
theorem FoundE.zero (fw : Bool) (es : List Ed) (k : Nat) (out : List Int) : FoundE fw es 0 k out := by
 rintro b ⟨e, hm, _⟩
 simp at hm
theorem FoundE.skip {fw : Bool} {es : List Ed} {i k : Nat} {out : List Int} {e : Ed} (h : FoundE fw es i k out) (hx : es[i]? = some e)
  (hs : ∀ b : Nat, (if fw = true then e.1 = (k : Int) ∧ e.2.2 = (b : Int) else e.2.2 = (k : Int) ∧ e.1 = (b : Int)) → ∃ y : Int, out[b]? = some y ∧ 0 ≤ y) : FoundE fw es (i + 1) k out := fun b hb => by
 rcases arc_take_succ hx hb with h1 | h1
 ·exact h b h1
 ·exact hs b h1
theorem FoundE.set {fw : Bool} {es : List Ed} {i k : Nat} {out : List Int} (h : FoundE fw es i k out) (v : Nat) {x : Int} (hx : 0 ≤ x) (hv : v < out.length) : FoundE fw es i k (out.set v x) := fun b hb => by
 obtain ⟨y, hy, hy0⟩ := h b hb
 by_cases e : v = b
 ·subst e
  exact ⟨x, List.getElem?_set_self hv, hx⟩
 ·exact ⟨y, by rw [List.getElem?_set_ne e]; exact hy, hy0⟩
def BoundD (N : Nat) (out : List Int) : Prop := ∀ (j : Nat) (x : Int), out[j]? = some x → x + (negs out : Int) ≤ (N : Int)
theorem BoundD.set {N v : Nat} {out : List Int} (h : BoundD N out) {k : Nat} {m z : Int} (hk : out[k]? = some m) (hz : out[v]? = some z) (hz0 : z < 0) (hm : 0 ≤ m) : BoundD N (out.set v (m + 1)) := fun j x hj => by
 have hn := negs_set (v := m + 1) hz hz0 (by omega);have h1 := h k m hk
 by_cases e : v = j
 ·subst e
  rw [List.getElem?_set_self (List.getElem?_eq_some_iff.1 hz).1] at hj;have := Option.some.inj hj;omega
 ·rw [List.getElem?_set_ne e] at hj
  have := h j x hj;omega
theorem map_nat_mem {l : List Int} (h : ∀ v ∈ l, 0 ≤ v) (k : Nat) : (k : Int) ∈ l ↔ k ∈ l.map Int.toNat := by
 constructor
 ·intro hk
  exact List.mem_map.2 ⟨_, hk, Int.toNat_natCast k⟩
 ·intro hk
  obtain ⟨v, hv, e⟩ := List.mem_map.1 hk;have := h v hv;rw [show (k : Int) = v by omega];exact hv
theorem distancesF_calls (N : Nat) (s1 : Int) (v2 : Value) (A3 : Option Addr) (n3 k3 : Nat) (A1 : Option Addr) (n1 c1 : Nat) (es : List Ed) (l : List Int) (w : World) (lo hi lo1 hi1 : Nat)
  (t3 : SlE w lo hi A3 n3 es) (t1 : SlI w lo1 hi1 A1 n1 l) (hes : n3 ≤ 1048576) (hn1 : n1 ≤ 1000) (hN1 : 1 ≤ N) (hN2 : N ≤ 40)
  (hedge : ∀ e ∈ es, (0 ≤ e.1 ∧ e.1 < (N : Int)) ∧ (0 ≤ e.2.2 ∧ e.2.2 < (N : Int))) (hin : ∀ v ∈ l, 0 ≤ v ∧ v < (N : Int)) :
  Calls Tryz.prog 125 #[.agg #[.int .i64 (N : Int), .int .i64 s1, v2, .slice A3 n3 k3], .slice A1 n1 c1, .bool true] w fun e w' => ∃ A c, e = .returned (.slice A N c) ∧ SlI w' w.heap.size w'.heap.size A N (distF true N es l) ∧ DistIs (srcE l) (arcE true es) N (distF true N es l) ∧ Below w.heap.size w w' := by
 have harc := hide (fun a k => arcE_in (es := es) (N := N) hedge (fw := true) a k);have hsrc : Hid (∀ k, srcE l k → k < N) := fun k hk => by have := hin k hk; omega
 have l3 := hide t3.len;have l1 := hide t1.len;have hb0 : Below w.heap.size w (w.alloc (.cells #[.int .i64 (N : Int), .int .i64 s1, v2, .slice A3 n3 k3] 27)) := bR.alloc zR _;have kE := heap_alloc_new w (.cells #[.int .i64 (N : Int), .int .i64 s1, v2, .slice A3 n3 k3] 27);have hz : w.heap.size < (w.alloc (.cells #[.int .i64 (N : Int), .int .i64 s1, v2, .slice A3 n3 k3] 27)).heap.size := by rw [World.size_alloc]; omega
 replace t3 := hide (t3.below hb0 (.inr zR));replace t1 := t1.below hb0 (.inr zR);have hz' := Nat.le_of_lt hz;replace hb0 := hide hb0;replace hedge := hide hedge;replace hin := hide hin;go_enter Tryz.func125, Tryz.ntmps125;go_upto_region 1 with fail;generalize (w.alloc (.cells #[.int .i64 (N : Int), .int .i64 s1, v2, .slice A3 n3 k3] 27)) = W0 at *;generalize hbm : w.heap.size = bm at *;have c0 : W0.cell? ⟨bm, 0, none⟩ = some (.int .i64 (N : Int)) := cR 0 kE;have c3 : W0.cell? ⟨bm, 3, none⟩ = some (.slice A3 n3 k3) := cR 3 kE;clear kE;have hb1 : Below W0.heap.size W0 (W0.alloc (.cells #[.int .i64 (-1)] 2)) := bR.alloc zR _;have d0 : (W0.alloc (.cells #[.int .i64 (-1)] 2)).cell? ⟨bm, 0, none⟩ = some (.int .i64 (N : Int)) := (hb1.cell (p := ⟨bm, 0, none⟩) hz).trans c0;have q1 := hide (repeatI_calls (some ⟨W0.heap.size, 0, none⟩) 1 (-1) N _ _ _ (Sl.lit1' W0 2 (-1 : Int) _ rfl 1 _ rfl) hN1 (by omega));have hb1z := hb1.size;replace hb1 := hide hb1;go_wp2_with fail;refine q1.out.mono ?_;rintro e w1 ⟨Ao, rfl, ho1, hb2⟩;have hbA := hb1.out.trans (hb2.mono hb1z);obtain ⟨bo, oo, rfl, hbo1, hbo2, -, -⟩ := ho1.at_ hN1;have q2 := hide (cloneO_calls A1 n1 c1 l w1 lo1 hi1 (t1.below hbA (.inr zR)) (by omega));have ho1t : SlI w1 bo (bo + 1) (some ⟨bo, oo, none⟩) N (List.replicate N (-1)) := ho1.tight' hN1;have hbow : W0.heap.size ≤ bo := Nat.le_trans hb1z hbo1;replace hbA := hide hbA;clear c0 d0 q1 ho1 hb2;go_wp2_with fail;refine q2.out.mono ?_;rintro e w2 ⟨Aq, cq, rfl, hq1, hb3⟩;have hM0 : MemD w2 bo oo N (List.replicate N (-1)) w1.heap.size Aq n1 cq l := ⟨ho1t.below hb3 (.inl (by omega)), OwnQ.of hq1, hbo2, hb3.size⟩;have hbB := hide (hbA.out.trans (hb3.mono hbA.out.size));replace hM0 := hide hM0;have hmk0 := hide (Marks.zero N l);have hqb : Hid (bo < w1.heap.size) := hbo2;generalize w1.heap.size = qb at *;clear q2 ho1t hq1 hb3 hbA;go_upto_region 4 with fail
 go_loopw [24] (fun i wr => ∃ (k : Nat) (out : List Int), k ≤ n1 ∧ i = .int .i64 (k : Nat) ∧ Hid (MemD wr bo oo N out qb Aq n1 cq l) ∧ Hid (Marks N l k out) ∧ Below W0.heap.size W0 wr) (fun i _ => n1 - (intOf i).toNat)
 case atStart => exact ⟨0, _, Nat.zero_le _, rfl, hM0, hmk0, hbB.out⟩
 case round =>
  clear hM0 hmk0 hbB;obtain ⟨k, out, hk, rfl, hM, hmk, hb⟩ := hrel
  by_cases hlt : k < n1
  ·obtain ⟨b, off, x, rfl, -, -, g3, hx, p0, -⟩ := SlI.get t1 hlt
   have hxin := hin.out x (List.mem_of_getElem? hx);obtain ⟨v, rfl⟩ : ∃ v : Nat, x = (v : Int) := ⟨x.toNat, by omega⟩;have hv : v < N := by omega
   have hvI : (v : Int) < (N : Int) := by omega
   replace p0 := (hb.cell (p := ⟨b, off + k, none⟩) g3).trans p0;obtain ⟨b6, o6, z, e6, -, -, -, -, cz, fz⟩ := SlI.get hM.out.out hv;cases e6;have hM1 := hide (hM.out.put hv 0);have hmk1 := hide (hmk.out.step hx);replace hb := hide hb;clear hx hxin hM hmk;go_wp2_with fail;go_roundw
   case rel => exact ⟨k + 1, _, by omega, by go_num, hM1, hmk1, hb.out.setCell hbow _⟩
   case measure => simp [intOf]; omega
  ·have hkn : k = n1 := by omega
   subst hkn;have hmarks := hmk.out.all (by rw [l1.out]; exact zR);have hqs : Hid (QueIs (srcE l) (arcE true es) N out (l.map Int.toNat)) := QueIs.start _ _ hmk.out.1 hmarks (fun j => map_nat_mem (fun v hv => (hin.out v hv).1) j) hsrc.out;have hng := negs_le out;rw [hmk.out.1] at hng;have hbd : Hid (BoundD N out) := fun j x hj => by
    rcases hmarks j x hj with ⟨h1, -⟩ | ⟨h1, -⟩ <;> omega
   have hpos : Hid (∀ v ∈ l, 0 ≤ v) := fun v hv => (hin.out v hv).1
   have hll := l1.out;replace hll := hide hll;replace hb := hide hb;clear hmk t1;go_wp2_with fail
   go_loopg [8] (k + N) (fun G v wr => ∃ (out todo : List Int) (A : Option Addr) (q c : Nat), v = .slice A q c ∧ Hid (MemD wr bo oo N out qb A q c todo) ∧ Hid (QueIs (srcE l) (arcE true es) N out (todo.map Int.toNat)) ∧ Hid (∀ v ∈ todo, 0 ≤ v) ∧ Hid (q + negs out ≤ 1040) ∧ Hid (BoundD N out) ∧ Below W0.heap.size W0 wr ∧ Hid (q + negs out ≤ G))
   case atStart => exact ⟨out, l, Aq, k, cq, rfl, hM, hqs, hpos, by show _ ≤ _; omega, hbd, hb.out, by show _ ≤ _; omega⟩
   case round =>
    clear hM hqs hpos hb hng hbd hmarks;obtain ⟨out, todo, A, q, c, rfl, hM, hQ, hpos, hcap, hbd, hb, hG⟩ := hrel
    cases todo with
    | nil =>
     have hq0 : q = 0 := hM.out.que.len.symm;subst hq0;have hd := QueIs.done _ _ hQ.out (fun a k h => harc.out a k h) hsrc.out;have hf := hide (distF_of hd);replace hd := hide hd;have hs := hide hM.out.out;have ho1 := hM.out.o1;have ho2 := hM.out.o2;clear hM hQ hpos hcap hG hbd;go_wp2_with fail;go_ret;have hs9 := hs.out.more (show bm ≤ bo by omega) (show bo + 1 ≤ wr.heap.size by omega);exact ⟨_, _, rfl, by first | (rw [hf.out]; exact hs9) | (rw [hbm, hf.out]; exact hs9), by rw [hf.out]; exact hd.out, by first | exact hb0.out.trans (hb.mono hz') | (rw [hbm]; exact hb0.out.trans (hb.mono hz'))⟩
    | cons t todo =>
     obtain ⟨kn, rfl⟩ : ∃ kn : Nat, t = (kn : Int) := ⟨t.toNat, by have := hpos.out t (by simp); omega⟩;obtain ⟨qg, qo, rfl, e0, hq0, hqc⟩ := hM.out.que.head;have hcut : ∀ W : World, (Instr.slice 32 (.slice (some ⟨qg, qo, none⟩) q c) (some (.int .i64 1)) none none).run Tryz.prog W = .ok (.slice (cutA (some ⟨qg, qo, none⟩) 1 c 1) (q - 1) (c - 1)) W := fun W => run_cut elem_int64 (some ⟨qg, qo, none⟩) q c 1 (by omega) W
     have hM2 := hide hM.out.cut;have hQ2 : Hid (QueIs (srcE l) (arcE true es) N out (kn :: todo.map Int.toNat)) := by have := hQ.out; rwa [List.map_cons, Int.toNat_natCast] at this
     have hpos2 : Hid (∀ v ∈ todo, 0 ≤ v) := fun v hv => hpos.out v (List.mem_cons_of_mem _ hv)
     obtain ⟨mk, hmk, hmk0⟩ := hQ2.out.todo_ kn (by simp);have hknN : kn < N := by have := (List.getElem?_eq_some_iff.1 hmk).1; rw [hQ2.out.len] at this; exact this
     obtain ⟨G2, rfl⟩ : ∃ G2, gk = G2 + 1 := ⟨gk - 1, by have := hG.out; omega⟩;have hcap2 : Hid (q - 1 + negs out ≤ 1039) := by have := hcap.out; show _ ≤ _; omega
     have hG2 : Hid (q - 1 + negs out ≤ G2) := by have := hG.out; show _ ≤ _; omega
     have y3 := (hb.cell (p := ⟨bm, 3, none⟩) hz).trans c3;have hfz := hide (FoundE.zero true es kn out);have hmkv : Hid (out[kn]? = some mk) := hmk;replace hb := hide hb;clear hM hQ hpos hcap hG hmk;generalize cutA (some ⟨qg, qo, none⟩) 1 c 1 = AC at *;generalize c - 1 = cc at *;go_upto_region 12 with fail;clear y3 e0 hcut;obtain ⟨wo, rfl⟩ : ∃ wo : World, wo = wr := ⟨_, rfl⟩
     go_loopw [8, 43] (fun v i wr => ∃ (j : Nat) (out todo : List Int) (A : Option Addr) (q c : Nat), j ≤ n3 ∧ v = .slice A q c ∧ i = .int .i64 (j : Nat) ∧ Hid (MemD wr bo oo N out qb A q c todo) ∧ Hid (QueIs (srcE l) (arcE true es) N out (kn :: todo.map Int.toNat)) ∧ Hid (∀ v ∈ todo, 0 ≤ v) ∧ Hid (q + negs out ≤ 1039) ∧ Hid (BoundD N out) ∧ Hid (out[kn]? = some mk) ∧ Hid (FoundE true es j kn out) ∧ Below W0.heap.size W0 wr ∧ Hid (q + negs out ≤ G2)) (fun _ i _ => n3 - (intOf i).toNat)
     case atStart => exact ⟨0, out, todo, AC, _, _, Nat.zero_le _, rfl, rfl, hM2, hQ2, hpos2, hcap2, hbd, hmkv, hfz, hb.out, hG2⟩
     case round =>
      clear hM2 hQ2 hpos2 hcap2 hmkv hfz hb hG2 hbd;obtain ⟨j, out, todo, A, q, c, hj, rfl, rfl, hM, hQ, hpos, hcap, hbd, hmk, hfo, hb, hG⟩ := hrel
      by_cases hlt : j < n3
      ·obtain ⟨b, off, f, lb, tg, rfl, -, -, g3, hx, p0, p1, p2, -, -, -⟩ := SlE.get t3.out hlt
       replace p0 := (hb.cell g3).trans p0;replace p1 := (hb.cell (p := ⟨b, off + j * 3 + 1, none⟩) g3).trans p1;replace p2 := (hb.cell (p := ⟨b, off + j * 3 + 2, none⟩) g3).trans p2;have hed := hedge.out _ (List.mem_of_getElem? hx);dsimp only at hed;obtain ⟨fn, rfl⟩ : ∃ fn : Nat, f = (fn : Int) := ⟨f.toNat, by omega⟩;obtain ⟨tn, rfl⟩ : ∃ tn : Nat, tg = (tn : Int) := ⟨tg.toNat, by omega⟩;have hbN : tn < N := by omega
       have hbI : (tn : Int) < (N : Int) := by omega
       have hb0I : (0 : Int) ≤ (tn : Int) := by omega
       have hkI : (kn : Int) < (N : Int) := by omega
       have hk0I : (0 : Int) ≤ (kn : Int) := by omega
       have y3 := (hb.cell (p := ⟨bm, 3, none⟩) hz).trans c3;have hI0 : (0 : Int) ≤ (j : Int) := by omega
       have hI1 : (j : Int) < (n3 : Int) := by omega
       have hbE : Below wr.heap.size wr (wr.alloc (.cells #[.int .i64 (fn : Int), .int .i64 lb, .int .i64 (tn : Int)] 84)) := bR.alloc zR _;have kE := heap_alloc_new wr (.cells #[.int .i64 (fn : Int), .int .i64 lb, .int .i64 (tn : Int)] 84);have hbB := hide (hb.trans (hbE.mono hb.size));have hME := hide (hM.out.alloc (.cells #[.int .i64 (fn : Int), .int .i64 lb, .int .i64 (tn : Int)] 84));have z0 : (wr.alloc (.cells #[.int .i64 (fn : Int), .int .i64 lb, .int .i64 (tn : Int)] 84)).cell? ⟨wr.heap.size, 0, none⟩ = some (.int .i64 (fn : Int)) := cR 0 kE;have z2 : (wr.alloc (.cells #[.int .i64 (fn : Int), .int .i64 lb, .int .i64 (tn : Int)] 84)).cell? ⟨wr.heap.size, 2, none⟩ = some (.int .i64 (tn : Int)) := cR 2 kE;clear kE hbE hM hb;go_upto_region 14 with fail;clear p0 p1 p2 y3;generalize (wr.alloc (.cells #[.int .i64 (fn : Int), .int .i64 lb, .int .i64 (tn : Int)] 84)) = WE at *;go_quiet (fail);have hMq : Hid (MemD (WE.drewN nq) bo oo N out qb A q c todo) := hME.out.drewN nq;have hBq : Hid (Below W0.heap.size W0 (WE.drewN nq)) := ⟨hbB.out.os, hbB.out.tape, hbB.out.output, hbB.out.size, hbB.out.block⟩;clear z0 z2 hME hbB;generalize WE.drewN nq = wq at *;have hbg : tn < out.length := by rw [hQ.out.len]; exact hbN
       obtain ⟨b6, o6, z, e6, -, -, -, hz6, cz, fz⟩ := SlI.get hMq.out.out hbN;cases e6;obtain ⟨b7, o7, z7, e7, -, -, -, hz7, ck, -⟩ := SlI.get hMq.out.out hknN;cases e7;rw [hmk.out] at hz7;obtain rfl : mk = z7 := Option.some.inj hz7
       by_cases hak : fn = kn
       ·subst hak
        by_cases hz0 : z < 0
        ·have harcE : arcE true es fn tn := ⟨_, List.mem_of_getElem? hx, by simp⟩
         have hne : tn ≠ fn := by
          intro e;rw [e] at hz6;rw [hmk.out] at hz6;have := Option.some.inj hz6;omega
         have hQ9 : Hid (QueIs (srcE l) (arcE true es) N (out.set tn (mk + 1)) (fn :: (todo ++ [(tn : Int)]).map Int.toNat)) := by
          have := QueIs.add _ _ hQ.out hmk.out hz6 hz0 harcE
          show QueIs _ _ _ _ _
          rw [List.map_append, List.map_cons, List.map_nil, Int.toNat_natCast];exact this
         have hmk9 : Hid ((out.set tn (mk + 1))[fn]? = some mk) := by show _ = _; rw [List.getElem?_set_ne hne]; exact hmk.out
         have hfo9 : Hid (FoundE true es (j + 1) fn (out.set tn (mk + 1))) := (hfo.out.set tn (x := mk + 1) (by omega) hbg).skip hx (fun b hb => by
          have hbb : b = tn := by simp at hb; omega
          subst hbb;exact ⟨_, List.getElem?_set_self hbg, by omega⟩)
         have hnegs := negs_set (v := mk + 1) hz6 hz0 (by omega);have hbd9 := hide (hbd.out.set hmk.out hz6 hz0 (by obtain ⟨y, hy, hy0⟩ := hQ.out.todo_ fn (by simp); rw [hmk.out] at hy; cases hy; exact hy0));have hmkb : mk ≤ 40 := by have := hbd.out fn mk hmk.out; omega
         have hmk0 : 0 ≤ mk := by obtain ⟨y, hy, hy0⟩ := hQ.out.todo_ fn (by simp); rw [hmk.out] at hy; cases hy; exact hy0
         have hM9 := (hMq.out.put hbN (mk + 1)).alloc (.cells #[.int .i64 (tn : Int)] 2);have hqlen := hM9.que.len;have hcell0 := cell_one_new (wq.setCell ⟨bo, oo + tn, none⟩ (.int .i64 (mk + 1))) (.int .i64 (tn : Int)) 2 0 _ rfl;rw [addr_add, Nat.zero_add, World.size_setCell] at hcell0;replace hcell0 := hide hcell0;have hbp := hide ((hBq.out.setCell (p := ⟨bo, oo + tn, none⟩) hbow (.int .i64 (mk + 1))).alloc (by rw [World.size_setCell]; exact hBq.out.size) (.cells #[.int .i64 (tn : Int)] 2));have hzq : qb ≤ ((wq.setCell ⟨bo, oo + tn, none⟩ (.int .i64 (mk + 1))).alloc (.cells #[.int .i64 (tn : Int)] 2)).heap.size := hM9.o2;have hq9 : q + 1 ≤ 1048576 := by have := hcap.out; omega
         have hcap9 : Hid (q + 1 + negs (out.set tn (mk + 1)) ≤ 1039) := by have := hcap.out; show _ ≤ _; omega
         have hG9 : Hid (q + 1 + negs (out.set tn (mk + 1)) ≤ G2) := by have := hG.out; show _ ≤ _; omega
         have hpos9 : Hid (∀ v ∈ todo ++ [(tn : Int)], 0 ≤ v) := fun v hv => by
          rcases List.mem_append.1 hv with h1 | h1
          ·exact hpos.out v h1
          ·have : v = (tn : Int) := by simpa using h1
           omega
         have hqbo : W0.heap.size ≤ qb := by have := hM9.o1; omega
         have d2 : decide (z < (0 : Int)) = true := decide_eq_true hz0;replace hM9 := hide hM9;clear hx hed hz6 hz0 hne hbd hnegs hmk hfo hQ hpos hcap hG hMq hBq harcE hqlen;go_wp2_with (first
          | (at_builtin; (with_reducible refine wpList_appQ rfl (.tmp 73) (.tmp 75) rfl rfl hM9.out.que ⟨wq.heap.size, 0, none⟩ 1 (tn : Int) rfl hcell0.out hq9 hzq ?_); intro A5 c5 w5 hown5 hgr5 hb5 _))
         have hM5 := hide (hM9.out.app hown5 hgr5);have hb6 := hide (hbp.out.trans (hb5.mono hqbo));clear hown5 hgr5 hb5 hM9;go_roundw
         case rel => exact ⟨j + 1, _, _, A5, q + 1, c5, by omega, rfl, by go_num, hM5, hQ9, hpos9, hcap9, hbd9, hmk9, hfo9, hb6.out, hG9⟩
         case measure => simp [intOf]; omega
        ·have hfo9 : Hid (FoundE true es (j + 1) fn out) := hfo.out.skip hx (fun b hb => by
          have hbb : b = tn := by simp at hb; omega
          subst hbb;exact ⟨z, hz6, by omega⟩)
         have d2 : decide (z < (0 : Int)) = false := decide_eq_false hz0;clear hx hed hz6;go_wp2_with fail;go_roundw
         case rel => exact ⟨j + 1, _, _, A, q, c, by omega, rfl, by go_num, hMq, hQ, hpos, hcap, hbd, hmk, hfo9, hBq.out, hG⟩
         case measure => simp [intOf]; omega
       ·have hfo9 : Hid (FoundE true es (j + 1) kn out) := hfo.out.skip hx (fun b hb => by
         exfalso
         simp at hb
         omega)
        have hne : ((fn : Int) == (kn : Int)) = false := by rw [beq_eq_false_iff_ne]; omega
        clear hx hed hz6;go_wp2_with fail;go_roundw
        case rel => exact ⟨j + 1, _, _, A, q, c, by omega, rfl, by go_num, hMq, hQ, hpos, hcap, hbd, hmk, hfo9, hBq.out, hG⟩
        case measure => simp [intOf]; omega
      ·have hjn : j = n3 := by omega
       subst hjn;have hQ9 : Hid (QueIs (srcE l) (arcE true es) N out (todo.map Int.toNat)) := QueIs.pop _ _ hQ.out (fun b hb => hfo.out b (by rw [List.take_of_length_le (by rw [l3.out]; exact zR)]; exact hb));have hcap9 : Hid (q + negs out ≤ 1040) := by have := hcap.out; show _ ≤ _; omega
       replace hb := hide hb;clear hQ hcap hfo hmk;go_wp2_with fail
       go_roundg G2
       case measure => omega
       case rel => exact ⟨out, todo, A, q, c, rfl, hM, hQ9, hpos, hcap9, hbd, hb.out, hG⟩
end Go.Proofs.YtnhomkmfbngmgaaGreatDoor
namespace Go.Proofs.YtnhomkmfbngmgaaGreatDoor
open Go.ChangeShapes Go.WideShapes Go.ChangeAt Go.RowKit
abbrev RowsI (most : Nat) := RowsG (id : Hd → Hd) 1 sv 1 iv most
abbrev HI := Option Addr × Nat
def hiV (N : Nat) (x : HI) : List Value := [.slice x.1 N x.2]
theorem flat_hiV (N : Nat) : Flat (hiV N) 1 := ⟨fun _ => rfl, fun x u h => by simp [hiV] at h; subst h; rfl⟩
theorem elem_rowI : Elem Tryz.prog 162 32 1 24 := Elem.of (z := .slice none 0 0) Tryz.underlying162 (by kernel_rfl) rfl (by omega) (by omega)
structure GrowI (w : World) (base N : Nat) (A : Option Addr) (n c : Nat) (R : List (HI × List Int)) : Prop where
 own : Own 1 (hiV N) w base 32 A n c (R.map (·.1))
 rows : ∀ r ∈ R, SlI w base w.heap.size r.1.1 N r.2
 off : ∀ r ∈ R, 0 < N → ∀ b off, r.1.1 = some ⟨b, off, none⟩ → (Value.slice A n c).ownBlock ≠ some b
section
variable {w w4 w5 w' : World} {base N n c : Nat} {A : Option Addr} {R : List (HI × List Int)}
theorem GrowI.len (h : GrowI w base N A n c R) : R.length = n := by have := h.own.len; rwa [List.length_map] at this
theorem GrowI.keep (h : GrowI w base N A n c R) (hs : w.heap.size ≤ w'.heap.size) (hk : ∀ b, base ≤ b → b < w.heap.size → w'.heap[b]? = w.heap[b]?) : GrowI w' base N A n c R :=
 ⟨h.own.keep fun g hg => hk g (h.own.lt g hg).1 (h.own.lt g hg).2, fun r hr => ((h.rows r hr).keep hs fun b h1 _ h3 => hk b h1 h3).more zR hs, h.off⟩
theorem GrowI.below (h : GrowI w base N A n c R) (hb : Below w.heap.size w w') : GrowI w' base N A n c R := h.keep hb.size fun b _ h2 => hb.block b h2
theorem GrowI.one {Ah : Option Addr} {ch : Nat} {s : List Int} (hs : SlI w base w.heap.size Ah N s) (hb : base ≤ w.heap.size) : GrowI (w.alloc (.cells #[.slice Ah N ch] 32)) base N (some ⟨w.heap.size, 0, none⟩) 1 1 [((Ah, ch), s)] := by
 have hbel : Below w.heap.size w (w.alloc (.cells #[.slice Ah N ch] 32)) := bR.alloc zR _;refine ⟨⟨rfl, by simp [hiV], .inr ⟨w.heap.size, 1, #[.slice Ah N ch], rfl, hb, heap_alloc_new w _, zR, by decide, rfl, rfl⟩⟩, fun r hr => ?_, fun r hr hN b off e => ?_⟩
 ·obtain rfl := List.mem_singleton.1 hr
  exact (hs.below hbel (.inr zR)).more zR hbel.size
 ·obtain rfl := List.mem_singleton.1 hr
  obtain ⟨b', off', e', -, -, g3, -⟩ := hs.at_ hN;have e : Ah = _ := e;rw [e] at e'
  cases e'
  intro e2;have e2 : some w.heap.size = some b := e2;injection e2 with e2;omega
theorem GrowI.push (h : GrowI w4 base N A n c R) {Ah : Option Addr} {ch : Nat} {s : List Int} (hs : SlI w4 base w4.heap.size Ah N s) (ho : ∀ b off, 0 < N → Ah = some ⟨b, off, none⟩ → (Value.slice A n c).ownBlock ≠ some b)
  {A5 : Option Addr} {c5 : Nat} (hown : Own 1 (hiV N) w5 base 32 A5 (n + 1) c5 (R.map (·.1) ++ [(Ah, ch)])) (hgr : w4.grownBy w5 (Value.slice A n c).ownBlock)
  (hat : (Value.slice A5 (n + 1) c5).ownBlock = (Value.slice A n c).ownBlock ∨ (Value.slice A5 (n + 1) c5).ownBlock = some w4.heap.size) :
  GrowI w5 base N A5 (n + 1) c5 (R ++ [((Ah, ch), s)]) := by
 have hz5 := hgr.size;have keepS : ∀ (B : Option Addr) (l : List Int), SlI w4 base w4.heap.size B N l → (∀ b off, 0 < N → B = some ⟨b, off, none⟩ → (Value.slice A n c).ownBlock ≠ some b) → SlI w5 base w5.heap.size B N l := by
  intro B l hl hne;refine ⟨hl.1, fun hm => ?_⟩;obtain ⟨b, off, rfl, g1, g2, g3, hc⟩ := hl.2 hm;have hk := hgr.block b g3 (fun e => hne b off hm rfl e.symm);refine ⟨b, off, rfl, g1, by omega, by omega, fun k x hx j u hu => ?_⟩;obtain ⟨h1, h2⟩ := hc k x hx j u hu;exact ⟨(World.cell?_of_block (w := w4) (by simpa using hk)).trans h1, (World.frozen?_of_block (w := w4) (by simpa using hk)).trans h2⟩
 have hoff : ∀ (B : Option Addr) (l : List Int), SlI w4 base w4.heap.size B N l → (∀ b off, 0 < N → B = some ⟨b, off, none⟩ → (Value.slice A n c).ownBlock ≠ some b) → ∀ b off, 0 < N → B = some ⟨b, off, none⟩ → (Value.slice A5 (n + 1) c5).ownBlock ≠ some b := by
  intro B l hl hne b off hN e
  rcases hat with h1 | h1
  ·rw [h1]; exact hne b off hN e
  ·rw [h1]
   obtain ⟨b', off', e', -, -, g3, -⟩ := hl.at_ hN;rw [e] at e'
   cases e'
   intro e2;injection e2 with e2;omega
 refine ⟨by rw [List.map_append]; exact hown, fun r hr => ?_, fun r hr hm b off e => ?_⟩
 ·rcases List.mem_append.1 hr with hr | hr
  ·exact keepS _ _ (h.rows r hr) fun b off hm e => h.off r hr hm b off e
  ·obtain rfl := List.mem_singleton.1 hr
   exact keepS _ _ hs ho
 ·rcases List.mem_append.1 hr with hr | hr
  ·exact hoff _ _ (h.rows r hr) (fun b off hm e => h.off r hr hm b off e) b off hm e
  ·obtain rfl := List.mem_singleton.1 hr
   exact hoff _ _ hs ho b off hm e
theorem GrowI.get (h : GrowI w base N A n c R) {k : Nat} (hk : k < n) : ∃ b off Ah ch s, A = some ⟨b, off, none⟩ ∧ base ≤ b ∧ b < w.heap.size ∧ R[k]? = some ((Ah, ch), s) ∧ w.cell? ⟨b, off + k, none⟩ = some (.slice Ah N ch) ∧ SlI w base w.heap.size Ah N s ∧
  ∀ b off, 0 < N → Ah = some ⟨b, off, none⟩ → (Value.slice A n c).ownBlock ≠ some b := by
 have hl := h.len;obtain ⟨b, off, e, g1, g2, g3, hc⟩ := (h.own.sl (flat_hiV N)).at_ (by omega);have hr : R[k]? = some R[k] := List.getElem?_eq_getElem (by omega);have hm : R[k] ∈ R := List.getElem_mem _;have h0 := (hc k R[k].1 (by rw [List.getElem?_map, hr]; rfl) 0 _ rfl).1;rw [Nat.mul_one, Nat.add_zero] at h0;exact ⟨b, off, R[k].1.1, R[k].1.2, R[k].2, e, g1, g3, hr, h0, h.rows _ hm, fun b off hN e => h.off _ hm hN b off e⟩
end
end Go.Proofs.YtnhomkmfbngmgaaGreatDoor
