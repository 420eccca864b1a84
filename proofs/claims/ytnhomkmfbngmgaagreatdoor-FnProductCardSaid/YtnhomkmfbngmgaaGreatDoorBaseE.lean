/-
  Lemmas that the law of this claim leans on. Conditions: sizes.
-/
import Derived.Test.YtnhomkmfbngmgaaGreatDoorBaseA
import Derived.Test.YtnhomkmfbngmgaaGreatDoorBaseB
import Derived.Test.YtnhomkmfbngmgaaGreatDoorBaseC
import Derived.Test.YtnhomkmfbngmgaaGreatDoorBaseD
import Derived.Deep.DeepCutAuto
import Derived.Outline
import Derived.WalkSpells
import Derived.Laws.CopyOwn
import Derived.Laws.Bits64b
import Derived.StillTailTactics
import Derived.Deep.RegionLaw
import Derived.Deep.LoopGhost
import Derived.ArgAppend
import Derived.Deep.QuietTactic
set_option maxHeartbeats 3200000
set_option maxRecDepth 100000
set_option linter.unusedSimpArgs false
set_option linter.unusedVariables false
namespace Go.Proofs.YtnhomkmfbngmgaaGreatDoor
open Go.ChangeShapes Go.WideShapes Go.ChangeAt Go.RowKit Go.Sort Go.Lib
theorem compareLabels_calls (a b : ByteArray) (w : World) : Calls Tryz.prog 226 #[.string a, .string b] w fun e w' => e = .returned (.int .i64 (cmpB (toL a) (toL b))) ∧ w' = w := by
 have q := Tryz.strings_Compare a b
 by_cases h1 : a = b
 ·subst h1
  have hv : Hid (cmpB (toL a) (toL a) = 0) := by show _ = _; unfold cmpB; rw [if_pos rfl]
  have hself : (a.toList == a.toList) = true := beq_self_eq_true _;clear q;go_enter Tryz.func226, Tryz.ntmps226;go_wp2_with fail;go_ret;exact ⟨ret_i (by rw [hv.out]), rfl⟩
 ·have n1 := str_neq h1
  have n2 : ¬ a.toList = b.toList := fun e => by rw [e, beq_self_eq_true] at n1; cases n1
  have n3 : ¬ toL a = toL b := fun e => h1 (toL_inj e)
  by_cases h2 : a = tauB
  ·have hv : Hid (cmpB (toL a) (toL b) = -1) := by show _ = _; unfold cmpB; rw [if_neg n3, if_pos (by rw [h2, toL_tau])]
   have t1 : (a.toList == [116, 97, 117]) = true := by rw [h2, tau_list]; rfl
   clear q n3 h1 h2;go_enter Tryz.func226, Tryz.ntmps226;go_wp2_with fail;go_ret;exact ⟨ret_i (by rw [hv.out]), rfl⟩
  ·have t1 : (a.toList == [116, 97, 117]) = false := by have := str_neq h2; rwa [tau_list] at this
   have t2 : ¬ a.toList = [116, 97, 117] := fun e => by rw [e] at t1; cases t1
   have t3 : ¬ toL a = tauBL := fun e => h2 (toL_inj (e.trans toL_tau.symm))
   by_cases h3 : b = tauB
   ·have hv : Hid (cmpB (toL a) (toL b) = 1) := by show _ = _; unfold cmpB; rw [if_neg n3, if_neg t3, if_pos (by rw [h3, toL_tau])]
    have u1 : (b.toList == [116, 97, 117]) = true := by rw [h3, tau_list]; rfl
    clear q n3 t3 h1 h2 h3;go_enter Tryz.func226, Tryz.ntmps226;go_wp2_with fail;go_ret;exact ⟨ret_i (by rw [hv.out]), rfl⟩
   ·have u1 : (b.toList == [116, 97, 117]) = false := by have := str_neq h3; rwa [tau_list] at this
    have u2 : ¬ b.toList = [116, 97, 117] := fun e => by rw [e] at u1; cases u1
    have u3 : ¬ toL b = tauBL := fun e => h3 (toL_inj (e.trans toL_tau.symm))
    have hv : Hid (cmpB (toL a) (toL b) = Lib.compareBytes a.data.toList b.data.toList) := by show _ = _; unfold cmpB; rw [if_neg n3, if_neg t3, if_neg u3]; rfl
    generalize Lib.compareBytes a.data.toList b.data.toList = r at *;replace q := hide q;clear n3 t3 u3 h1 h2 h3;go_enter Tryz.func226, Tryz.ntmps226;go_wp2_with (first | (go_at_call 292; (with_reducible refine (q.out _).mono ?_); rintro e w5 ⟨rfl, rfl⟩));go_ret;exact ⟨ret_i (by rw [hv.out]), rfl⟩
theorem strv_map (l : List ByteArray) : l.flatMap strv = l.map Value.string := by
 induction l with
 | nil => rfl
 | cons x l ih => rw [List.flatMap_cons, ih]; rfl
section
variable {w : World} {base g n c q : Nat} {e : TypeId} {l : List ByteArray} {d : List (List UInt8)} {os : Array Obj}
theorem putS_block (w : World) (g q : Nat) (d : List (List UInt8)) (os : Array Obj) (hg : g < w.heap.size) :
  (grow (putRow encStr (Sort.ahead w q) g 0 d.toArray) os).heap[g]? = (w.heap[g]?).map (onCells (Go.Sort.putCells encStr 0 d.toArray)) := by
 rw [heap_grow_old _ _ (by simpa [putRow, mapBlock, Sort.ahead] using hg)]
 simp [putRow, mapBlock, Sort.ahead, Array.getElem?_modify]
theorem putS_grown (w : World) (g q : Nat) (d : List (List UInt8)) (os : Array Obj) : w.grownBy (grow (putRow encStr (Sort.ahead w q) g 0 d.toArray) os) (some g) := by
 refine ⟨rfl, rfl, rfl, by simp [putRow, mapBlock, Sort.ahead], fun k hk hne => ?_⟩;rw [heap_grow_old _ _ (by simpa [putRow, mapBlock, Sort.ahead] using hk)];have hne' : g ≠ k := fun h => hne (by rw [h])
 simp [putRow, mapBlock, Sort.ahead, Array.getElem?_modify, hne']
theorem Own.putS (h : Own 1 strv w base e (some ⟨g, 0, none⟩) n c l) (hd : d.length = n) {m : Nat} (hm : m ≤ n) :
  Own 1 strv (grow (putRow encStr (Sort.ahead w q) g 0 d.toArray) os) base e (some ⟨g, 0, none⟩) m c ((d.take m).map ofL) := by
 rcases h.2.2 with ⟨hv, -⟩ | ⟨g', cap, cur, hv, hb, hg, hnc, hcm, hcs, htake⟩
 ·cases hv
 ·cases hv
  have hlt : g < w.heap.size := (Array.getElem?_eq_some_iff.1 hg).1;have hl : ((d.take m).map ofL).length = m := by rw [List.length_map, List.length_take]; omega
  refine ⟨hl, by rw [flat_length flat_strv, hl], .inr ⟨g, c, Go.Sort.putCells encStr 0 d.toArray cur, rfl, hb, ?_, by omega, hcm, by simp [Go.Sort.putCells, hcs], ?_⟩⟩
  ·rw [putS_block _ _ _ _ _ hlt, hg]
   rfl
  ·rw [strv_map]
   apply List.ext_getElem?
   intro k
   by_cases hk : k < m
   ·have hkc : k < cur.size := by omega
    have hkd : k < d.length := by omega
    rw [List.getElem?_take, if_pos (by omega), List.getElem?_map, List.getElem?_map, List.getElem?_take, if_pos hk, Array.getElem?_toList, List.getElem?_eq_getElem hkd];simp only [Go.Sort.putCells, Array.getElem?_mapIdx, Array.getElem?_eq_getElem hkc, Option.map_some];rw [if_pos ⟨Nat.zero_le _, by simp; omega⟩, Nat.sub_zero, getElem!_pos _ k (by simpa using hkd)]
    simp [encStr, ofL]
   ·rw [List.getElem?_eq_none (by simp; omega), List.getElem?_eq_none (by simp; omega)]
theorem Own.holdsS (h : Own 1 strv w base e (some ⟨g, 0, none⟩) n c l) : Holds encStr w g 0 (l.map toL).toArray := by
 intro j hj;have hj' : j < l.length := by simpa using hj
 have hs := h.sl flat_strv;have hn := h.len;obtain ⟨b', off', e', -, -, -, hc⟩ := hs.at_ (by omega)
 cases e'
 have := hc j l[j] (List.getElem?_eq_getElem hj') 0 (.string l[j]) rfl;rw [getElem!_pos _ j hj];have he : encStr (l.map toL).toArray[j] = .string l[j] := by
  simp only [List.getElem_toArray, List.getElem_map];exact congrArg Value.string (ofL_toL _)
 rw [he]
 simpa using this
end
section
variable {w : World} {base n c : Nat} {A : Option Addr} {l : List ByteArray}
theorem sortL_calls (h : Own 1 strv w base 9 A n c l) (hn : n ≤ 1000000000) :
  Calls Tryz.prog 225 #[.slice A n c, .func (.func 226) #[] #[]] w fun e w' => e = .returned (.tuple #[]) ∧ Own 1 strv w' base 9 A n c (((l.map toL).mergeSort fun x y => !(ltL y x)).map ofL) ∧ w.grownBy w' (Value.slice A n c).ownBlock := by
 rcases h.2.2 with ⟨hv, hn0⟩ | ⟨g, cap, cur, hv, hb, hg, hnc, hcm, hcs, htake⟩
 ·cases hv
  have hl := List.eq_nil_of_length_eq_zero h.len;subst hl;refine (Tryz.slices_SortFunc_string_none none 0 _ w).mono ?_;rintro e w' ⟨rfl, rfl⟩;refine ⟨rfl, ?_, ⟨rfl, rfl, rfl, zR, fun _ _ _ => rfl⟩⟩
  simpa using h
 ·cases hv
  have hlt : g < w.heap.size := (Array.getElem?_eq_some_iff.1 hg).1;have eg : ∀ args w, (callFunc 226 args).run Tryz.prog w = .ok (.enter 226 args) w := enters_of Tryz.func226 (by kernel_rfl) rfl;have hsz : (l.map toL).toArray.size = n := by simp [h.len]
  have hcmp : CmpReads Tryz.prog 226 #[] encStr cmpB g 0 (l.map toL).toArray.size w := fun m os dk hs x y => (compareLabels_calls (ofL x) (ofL y) _).mono fun e w' ⟨he, hw⟩ => ⟨by rw [he, toL_ofL, toL_ofL], 0, hw⟩
  have hq := Tryz.slices_SortFunc_string cmpB swoL 226 #[] g 0 c (l.map toL).toArray w eg hcmp.lays h.holdsS hlt (by rw [hsz]; omega) apartL;rw [hsz] at hq;refine hq.mono ?_;rintro e w' ⟨rfl, q, os, rfl⟩;have hd : ((l.map toL).mergeSort fun x y => !(ltL y x)).length = n := by rw [List.length_mergeSort, List.length_map, h.len]
  refine ⟨rfl, ?_, putS_grown _ _ _ _ _⟩;have := h.putS (d := (l.map toL).mergeSort fun x y => !(ltL y x)) (q := q) (os := os) hd (Nat.le_refl n)
  rwa [List.take_of_length_le (by rw [hd]; exact zR)] at this
theorem compactL_calls (h : Own 1 strv w base 9 A n c l) (hn : n ≤ 1000000000) :
  Calls Tryz.prog 227 #[.slice A n c] w fun e w' => e = .returned (.slice A (Lib.compact (l.map toL)).length c) ∧ Own 1 strv w' base 9 A (Lib.compact (l.map toL)).length c ((Lib.compact (l.map toL)).map ofL) ∧ w.grownBy w' (Value.slice A n c).ownBlock := by
 rcases h.2.2 with ⟨hv, hn0⟩ | ⟨g, cap, cur, hv, hb, hg, hnc, hcm, hcs, htake⟩
 ·cases hv
  have hl := List.eq_nil_of_length_eq_zero h.len;subst hl;refine (Tryz.slices_Compact_string_empty none 0 w).mono ?_;rintro e w' ⟨rfl, rfl⟩;exact ⟨rfl, h, ⟨rfl, rfl, rfl, zR, fun _ _ _ => rfl⟩⟩
 ·cases hv
  have hlt : g < w.heap.size := (Array.getElem?_eq_some_iff.1 hg).1;have hlen := compact_length_le (l.map toL);have hln : (l.map toL).length = n := by rw [List.length_map, h.len]
  have hq := Tryz.slices_Compact_string g 0 c (l.map toL) w h.holdsS (by omega) (by omega);rw [hln] at hq hlen;refine hq.mono ?_;rintro e w' ⟨rfl, q, rfl⟩;have hd : (Lib.compact (l.map toL) ++ List.replicate (n - (Lib.compact (l.map toL)).length) []).length = n := by simp; omega
  have h1 := h.putS (d := Lib.compact (l.map toL) ++ List.replicate (n - (Lib.compact (l.map toL)).length) []) (q := q) (os := #[]) hd hlen;have h2 := putS_grown w g q (Lib.compact (l.map toL) ++ List.replicate (n - (Lib.compact (l.map toL)).length) []) #[];rw [grow_empty] at h1 h2;rw [List.take_left' rfl] at h1;exact ⟨rfl, h1, h2⟩
end
theorem map_toL_ofL (d : List (List UInt8)) : (d.map ofL).map toL = d := by
 rw [List.map_map];exact (List.map_congr_left fun x _ => toL_ofL x).trans (List.map_id _)
theorem compactD_calls {w : World} {base n c : Nat} {A : Option Addr} {d : List (List UInt8)} (h : Own 1 strv w base 9 A n c (d.map ofL)) (hn : n ≤ 1000000000) :
  Calls Tryz.prog 227 #[.slice A n c] w fun e w' => e = .returned (.slice A (Lib.compact d).length c) ∧ Own 1 strv w' base 9 A (Lib.compact d).length c ((Lib.compact d).map ofL) ∧ w.grownBy w' (Value.slice A n c).ownBlock := by
 have := compactL_calls h hn
 rwa [map_toL_ofL] at this
end Go.Proofs.YtnhomkmfbngmgaaGreatDoor
namespace Go.Proofs.YtnhomkmfbngmgaaGreatDoor
open Go.ChangeShapes Go.WideShapes Go.ChangeAt Go.RowKit Go.Sort
structure JoiI (out : List ByteArray) (l : List ByteArray) : Prop where
 head : out[0]? = some tauB
 rise : (out.map toL).Pairwise fun x y => ltL x y = true
 mem : ∀ x, x ∈ out ↔ x = tauB ∨ x ∈ l
theorem JoiI.start : JoiI [tauB] [] := ⟨rfl, by simp, fun x => by simp⟩
theorem JoiI.old {out l : List ByteArray} (h : JoiI out l) {s : ByteArray} (hs : s ∈ out) : JoiI out (l ++ [s]) :=
 ⟨h.head, h.rise, fun x => by
  rw [h.mem, List.mem_append, List.mem_singleton]
  constructor
  ·rintro (g | g)
   ·exact .inl g
   ·exact .inr (.inl g)
  ·rintro (g | g | rfl)
   ·exact .inl g
   ·exact .inr g
   ·exact (h.mem _).1 hs⟩
theorem JoiI.put {out l : List ByteArray} (h : JoiI out l) {s : ByteArray} (hs : ¬ s ∈ out) {k : Nat} (hk0 : 1 ≤ k) (hk : k ≤ out.length) (hlo : ∀ j, 1 ≤ j → j < k → ∀ x, out[j]? = some x → Op.bytesLess x.toList s.toList = true) (hhi : ∀ x, out[k]? = some x → Op.bytesLess x.toList s.toList = false) :
  JoiI (out.take k ++ s :: out.drop k) (l ++ [s]) := by
 have hst : s ≠ tauB := fun e => hs (e ▸ (h.mem tauB).2 (.inl rfl))
 have hsL : toL s ≠ tauBL := fun e => hst (toL_inj (e.trans toL_tau.symm))
 have hne : ∀ x ∈ out, toL x ≠ toL s := fun x hx e => hs (toL_inj e ▸ hx)
 have hlow : ∀ x ∈ out.take k, ltL (toL x) (toL s) = true := fun x hx => by
  obtain ⟨j, hj⟩ := List.getElem?_of_mem hx;rw [List.getElem?_take] at hj
  split at hj
  ·rename_i hjk
   have hxo := List.mem_of_getElem? hj;rw [ltL_iff];refine ⟨hne x hxo, ?_⟩
   by_cases h0 : j = 0
   ·subst h0
    rw [h.head] at hj;have := Option.some.inj hj;subst this;exact .inl toL_tau
   ·have := hlo j (by omega) hjk x hj
    rw [toL_eq, toL_eq] at this;exact .inr ⟨hsL, this⟩
  ·cases hj
 have hhigh : ∀ x ∈ out.drop k, ltL (toL s) (toL x) = true := fun x hx => by
  have hkl : k < out.length := by
   rcases Nat.lt_or_ge k out.length with h1 | h1
   ·exact h1
   ·rw [List.drop_eq_nil_of_le h1] at hx; cases hx
  have hy : out[k]? = some out[k] := List.getElem?_eq_getElem _;have h1 : ltL (toL s) (toL out[k]) = true := by
   rcases ltL_total (toL s) (toL out[k]) with g | g | g
   ·exact g
   ·exact absurd g.symm (hne _ (List.mem_of_getElem? hy))
   ·rw [ltL_iff] at g
    have h2 := hhi _ hy;rw [toL_eq, toL_eq] at h2
    rcases g.2 with g2 | g2
    ·have h3 : out[k] = tauB := toL_inj (g2.trans toL_tau.symm)
     have h4 := List.pairwise_iff_getElem.1 h.rise 0 k (by rw [List.length_map]; omega) (by rw [List.length_map]; omega) (by omega);rw [List.getElem_map, List.getElem_map, h3] at h4;have h5 := h.head;rw [List.getElem?_eq_getElem (by omega)] at h5;rw [Option.some.inj h5, ltL_irr] at h4
     cases h4
    ·rw [h2] at g2
     cases g2.2
  rw [List.drop_eq_getElem_cons hkl] at hx
  rcases List.mem_cons.1 hx with rfl | hx
  ·exact h1
  ·obtain ⟨j, hj⟩ := List.getElem?_of_mem hx
   rw [List.getElem?_drop] at hj;have hjl := (List.getElem?_eq_some_iff.1 hj).1;have h4 := List.pairwise_iff_getElem.1 h.rise k (k + 1 + j) (by rw [List.length_map]; omega) (by rw [List.length_map]; omega) (by omega);rw [List.getElem_map, List.getElem_map, (List.getElem?_eq_some_iff.1 hj).2] at h4;exact ltL_trans h1 h4
 refine ⟨?_, ?_, fun x => ?_⟩
 ·rw [List.getElem?_append_left (by rw [List.length_take]; omega), List.getElem?_take, if_pos (by omega)]
  exact h.head
 ·rw [List.map_append, List.map_cons, List.pairwise_append]
  have hr := h.rise;rw [← List.take_append_drop k out, List.map_append, List.pairwise_append] at hr;refine ⟨hr.1, List.pairwise_cons.2 ⟨fun y hy => ?_, hr.2.1⟩, fun a ha b hb => ?_⟩
  ·obtain ⟨x, hx, rfl⟩ := List.mem_map.1 hy
   exact hhigh x hx
  ·obtain ⟨x, hx, rfl⟩ := List.mem_map.1 ha
   rcases List.mem_cons.1 hb with rfl | hb
   ·exact hlow x hx
   ·exact hr.2.2 _ ha _ hb
 ·have hm := h.mem x
  rw [← List.take_append_drop k out, List.mem_append] at hm;rw [List.mem_append, List.mem_cons, List.mem_append, List.mem_singleton]
  constructor
  ·rintro (g | g | g)
   ·rcases hm.1 (.inl g) with g | g
    ·exact .inl g
    ·exact .inr (.inl g)
   ·exact .inr (.inr g)
   ·rcases hm.1 (.inr g) with g | g
    ·exact .inl g
    ·exact .inr (.inl g)
  ·rintro (g | g | g)
   ·rcases hm.2 (.inl g) with g | g
    ·exact .inl g
    ·exact .inr (.inr g)
   ·rcases hm.2 (.inr g) with g | g
    ·exact .inl g
    ·exact .inr (.inr g)
   ·exact .inr (.inl g)
def joiF (l : List ByteArray) : List ByteArray := (Lib.compact (((tauB :: l).map toL).mergeSort fun x y => !(ltL y x))).map ofL
theorem map_toL_ofL2 (d : List (List UInt8)) : (d.map ofL).map toL = d := by
 rw [List.map_map];exact (List.map_congr_left fun x _ => toL_ofL x).trans (List.map_id _)
theorem JoiI.done {out l : List ByteArray} (h : JoiI out l) : out = joiF l := by
 have h1 : out.map toL = Lib.compact (((tauB :: l).map toL).mergeSort fun x y => !(ltL y x)) := by
  refine rise_ext (r := fun x y => ltL x y = true) (fun a g => by rw [ltL_irr] at g; cases g) (fun a b g k => ltL_asym g k) h.rise (compact_rise (sortL_rise _)) fun y => ?_
  rw [compactL_mem, List.mem_mergeSort, List.mem_map, List.mem_map]
  constructor
  ·rintro ⟨x, hx, rfl⟩
   exact ⟨x, by rw [List.mem_cons]; exact (h.mem x).1 hx, rfl⟩
  ·rintro ⟨x, hx, rfl⟩
   exact ⟨x, by rw [List.mem_cons] at hx; exact (h.mem x).2 hx, rfl⟩
 unfold joiF;rw [← h1, List.map_map];exact ((List.map_congr_left fun x _ => ofL_toL x).trans (List.map_id _)).symm
theorem JoiI.len {out l : List ByteArray} (h : JoiI out l) : out.length ≤ l.length + 1 := by
 rw [h.done];unfold joiF;rw [List.length_map];refine Nat.le_trans (Go.Lib.compact_length_le _) ?_;rw [List.length_mergeSort, List.length_map, List.length_cons];exact zR
theorem any_of_mem {l : List ByteArray} {s : ByteArray} : anyL l s = true ↔ s ∈ l := by
 unfold anyL;rw [List.any_eq_true];exact ⟨fun ⟨x, h, e⟩ => of_decide_eq_true e ▸ h, fun h => ⟨s, h, decide_eq_true rfl⟩⟩
theorem Own.ne {w : World} {base e n c : Nat} {A : Option Addr} {l : List ByteArray} (h : Own 1 strv w base e A n c l) (hn : 0 < n) : ∃ g, A = some ⟨g, 0, none⟩ ∧ base ≤ g := by
 rcases h.2.2 with ⟨-, hv⟩ | ⟨g, cap, cur, hv, hb, -⟩
 ·omega
 ·cases hv
  exact ⟨g, rfl, hb⟩
theorem shift_set {out : List ByteArray} {i : Nat} {z x : ByteArray} (hi : i < out.length) (hx : out[i]? = some x) : (out.take (i + 1) ++ z :: out.drop (i + 1)).set (i + 1) x = out.take i ++ x :: out.drop i := by
 have h1 : out.drop i = x :: out.drop (i + 1) := by rw [List.drop_eq_getElem_cons hi]; congr 1; exact Option.some.inj ((List.getElem?_eq_getElem hi).symm.trans hx)
 rw [List.set_append_right _ _ (by rw [List.length_take]; omega), List.length_take, Nat.min_eq_left (by omega), Nat.sub_self, List.set_cons_zero, List.take_add_one, hx, h1]
 simp
theorem shift_end {out : List ByteArray} {i : Nat} {z x : ByteArray} (hi : i ≤ out.length) : (out.take i ++ z :: out.drop i).set i x = out.take i ++ x :: out.drop i := by
 rw [List.set_append_right _ _ (by rw [List.length_take]; omega), List.length_take, Nat.min_eq_left (by omega), Nat.sub_self, List.set_cons_zero]
theorem shift_get {out : List ByteArray} {i : Nat} {z x : ByteArray} (hi : i < out.length) (hx : out[i]? = some x) : (out.take (i + 1) ++ z :: out.drop (i + 1))[i]? = some x := by
 rw [List.getElem?_append_left (by rw [List.length_take]; omega), List.getElem?_take, if_pos (by omega), hx]
theorem l11Join_calls (A : Option Addr) (n c : Nat) (l : List ByteArray) (w : World) (lo hi : Nat) (h : SlS w lo hi A n l) (hh : hi ≤ w.heap.size) (hn : n ≤ 100000) :
  Calls Tryz.prog 146 #[.slice A n c] w fun e w' => ∃ A' n' c', e = .returned (.slice A' n' c') ∧ Own 1 strv w' w.heap.size 9 A' n' c' (joiF l) ∧ Below w.heap.size w w' := by
 have hE := hide elem_str;have hlen := hide h.len;have k1 := heap_alloc_new w (.cells #[.string tauB] 9);have hst : Hid (Own 1 strv (w.alloc (.cells #[.string tauB] 9)) w.heap.size 9 (some ⟨w.heap.size, 0, none⟩) 1 1 [tauB]) := Own.litL k1 rfl zR;have hb0 := hide ((Below.refl w.heap.size w).alloc zR (.cells #[.string tauB] 9));replace h := hide h;clear k1;go_enter Tryz.func146, Tryz.ntmps146;go_upto_region 2 with fail;go_upto_region 3 with fail
 go_loopg [3, 4] n (fun J o i wr => ∃ (k m c : Nat) (A : Option Addr) (out : List ByteArray), k ≤ n ∧ o = .slice A m c ∧ i = .int .i64 (k : Nat) ∧ Hid (Own 1 strv wr w.heap.size 9 A m c out) ∧ Hid (JoiI out (l.take k)) ∧ Hid (Below w.heap.size w wr) ∧ Hid (n - k ≤ J))
 case atStart => exact ⟨0, 1, 1, _, [tauB], Nat.zero_le _, rfl, rfl, hst.out, JoiI.start, hb0.out, by show _ ≤ _; omega⟩
 case round =>
  clear hst hb0;obtain ⟨k, m, c2, A2, out, hk, rfl, rfl, hown, hj, hb, hG⟩ := hrel
  by_cases hlt : k < n
  ·obtain ⟨J2, rfl⟩ : ∃ G2, gk = G2 + 1 := ⟨gk - 1, by have := hG.out; omega⟩
   have hJ2 : Hid (n - (k + 1) ≤ J2) := by have := hG.out; show _ ≤ _; omega
   obtain ⟨b, off, s, rfl, g1, g2, g3, hx, c0, -⟩ := SlS.get h.out hlt;have hbb := hb.out;have c00 := hide c0;have z0 := (hbb.cell (p := ⟨b, off + k, none⟩) g3).trans c0;have hml := hown.out.len;have hm1 : 1 ≤ m ∧ m ≤ k + 1 := by
    have h1 := hj.out.len;have h2 := hj.out.head;rw [List.length_take] at h1;have h3 := (List.getElem?_eq_some_iff.1 h2).1;omega
   obtain ⟨hm0, hm1⟩ := hm1;have q := l11Find_calls s A2 m c2 out wr _ _ (hown.out.sl flat_strv) (by omega);have htk : l.take (k + 1) = l.take k ++ [s] := by rw [List.take_add_one, hx]; rfl
   have hI0 : (0 : Int) ≤ (k : Int) := by omega
   have hI1 : (k : Int) < (n : Int) := by omega
   clear c0 hbb hG
   by_cases hin : s ∈ out
   ·have hj2 : Hid (JoiI out (l.take (k + 1))) := by show JoiI _ _; rw [htk]; exact hj.out.old hin
    replace q := hide (q.mono (R' := fun e w' => ∃ i : Nat, e = .returned (.int .i64 (i : Int)) ∧ wr = w') (by
     rintro e w' ⟨i, rfl, hf, rfl⟩
     rcases hf with ⟨-, h2⟩ | ⟨k, rfl, -, -⟩
     ·rw [any_of_mem.2 hin] at h2; cases h2
     ·exact ⟨k, rfl, rfl⟩))
    clear hj hx htk hin hml;go_wp2_with (first | (go_at_call 174; (with_reducible refine q.out.mono ?_); rintro e w5 ⟨i, rfl, rfl⟩; have hge : (0 : Int) ≤ (i : Int) := Int.natCast_nonneg _))
    go_roundg J2
    case measure => omega
    case rel => exact ⟨k + 1, m, c2, A2, out, by omega, rfl, by go_num, hown, hj2, hb, hJ2⟩
   ·replace q := hide (q.mono (R' := fun e w' => e = .returned (.int .i64 (-1)) ∧ wr = w') (by
     rintro e w' ⟨i, rfl, hf, rfl⟩
     rcases hf with ⟨rfl, h2⟩ | ⟨k, rfl, -, h2⟩
     ·exact ⟨rfl, rfl⟩
     ·exact absurd (any_of_mem.1 h2) hin))
    have hna : Hid (∀ out', JoiI out' (l.take k ++ [s]) → JoiI out' (l.take (k + 1))) := fun out' h => by rw [htk]; exact h
    have hzw := hb.out.size;clear hx htk;go_upto_region 6 with (first | (go_at_call 174; (with_reducible refine q.out.mono ?_); rintro e w5 ⟨rfl, rfl⟩));go_upto_region 7 with fail;obtain ⟨wO, rfl⟩ : ∃ wO : World, wO = wr := ⟨_, rfl⟩
    go_loopw [5] (fun i wr => ∃ t : Nat, 1 ≤ t ∧ t ≤ m ∧ i = .int .i64 (t : Nat) ∧ Hid (∀ j, 1 ≤ j → j < t → ∀ x, out[j]? = some x → Op.bytesLess x.toList s.toList = true) ∧ Hid (Own 1 strv wr w.heap.size 9 A2 m c2 out) ∧ Hid (Below w.heap.size w wr)) (fun i _ => m - (intOf i).toNat)
    case atStart => exact ⟨1, zR, by omega, rfl, fun j h1 h2 => by omega, hown.out, hb.out⟩
    case round =>
     clear hown hb q z0;obtain ⟨t, ht1, htm, rfl, hlo, hown, hb⟩ := hrel;have z0 := (hb.out.cell (p := ⟨b, off + k, none⟩) g3).trans c00.out;have t0 : (0 : Int) ≤ (t : Int) := by omega
     by_cases hgo : t < m ∧ ∃ x, out[t]? = some x ∧ Op.bytesLess x.toList s.toList = true
     ·obtain ⟨htl, x, hx, hxs⟩ := hgo
      have t1 : (t : Int) < (m : Int) := by omega
      have f1 : decide ((t : Int) < (m : Int)) = true := decide_eq_true t1;obtain ⟨ga, oa, x', rfl, -, -, -, hx', cx, -⟩ := SlS.get (hown.out.sl flat_strv) htl;rw [hx] at hx';injection hx' with hx';subst hx';have hlo2 : Hid (∀ j, 1 ≤ j → j < t + 1 → ∀ x, out[j]? = some x → Op.bytesLess x.toList s.toList = true) := fun j h1 h2 y hy => by
       by_cases e : j = t
       ·subst e; rw [hx] at hy; injection hy with hy; rw [← hy]; exact hxs
       ·exact hlo.out j h1 (by omega) y hy
      clear hx hlo;go_wp2_with fail;go_quiet (fail);go_wp2_with fail;go_roundw
      case rel => exact ⟨t + 1, by omega, by omega, by go_num, hlo2.out, hown.out.keep fun _ _ => rfl, hb.out.trans ((below_drewN _ nq).mono hb.out.size)⟩
      case measure => simp [intOf]; omega
     ·have hput := hide (hj.out.put (s := s) hin ht1 (by omega) hlo.out (fun x hx => by
       have h3 := (List.getElem?_eq_some_iff.1 hx).1;rw [Bool.eq_false_iff];exact fun h4 => hgo ⟨by omega, x, hx, h4⟩))
      have hstop : t = m ∨ ∃ x, t < m ∧ out[t]? = some x ∧ Op.bytesLess x.toList s.toList = false := by
       by_cases e : t = m
       ·exact .inl e
       ·obtain ⟨x, hx⟩ : ∃ x, out[t]? = some x := ⟨_, List.getElem?_eq_getElem (by omega)⟩
        exact .inr ⟨x, by omega, hx, Bool.eq_false_iff.2 fun h4 => hgo ⟨by omega, x, hx, h4⟩⟩
      clear hgo hlo;have hAB : Hid (t < m → ∀ ga oa, A2 = some ⟨ga, oa, none⟩ → ∀ x, out[t]? = some x → wr.cell? ⟨ga, oa + t, none⟩ = some (.string x)) := fun h1 ga oa eA x hx => by
       obtain ⟨ga', oa', x', e', -, -, -, hx', cx, -⟩ := SlS.get (hown.out.sl flat_strv) h1;rw [eA] at e'
       cases e'
       rw [hx] at hx';injection hx' with hx';rw [hx']; exact cx
      obtain ⟨gA, rfl, -⟩ := hown.out.ne (by omega)
      rcases hstop with hst | ⟨x, htl, hx, hxs⟩
      focus
       have t1 : ¬ (t : Int) < (m : Int) := by omega
       have f1 : decide ((t : Int) < (m : Int)) = false := decide_eq_false t1;have f2 : decide (t < m) = false := decide_eq_false (by omega);have f3 : ¬ t < m := by omega
       clear hAB hst;go_wp2_with fail;go_quiet (fail);go_upto_region 9 with fail;clear t1 f1 f2 f3
      rotate_left
      focus
       have t1 : (t : Int) < (m : Int) := by omega
       have f1 : decide ((t : Int) < (m : Int)) = true := decide_eq_true t1;have f2 : decide (t < m) = true := decide_eq_true htl;have cx := hAB.out htl gA 0 rfl x hx;rw [Nat.zero_add] at cx;clear hAB hx;go_wp2_with fail;go_quiet (fail);go_upto_region 9 with fail;clear hxs cx htl t1 f1 f2
      all_goals
       obtain ⟨wq, hwq⟩ : ∃ wq, wq = wr.drewN nq := ⟨_, rfl⟩;have hownq : Hid (Own 1 strv wq w.heap.size 9 (some ⟨gA, 0, none⟩) m c2 out) := by rw [hwq]; exact hown.out.keep fun _ _ => rfl
       have hbq : Hid (Below w.heap.size w wq) := by rw [hwq]; exact hb.out.trans ((below_drewN _ nq).mono hb.out.size)
       rw [← hwq];replace hwq := hide hwq;have hzq := hbq.out.size;have hza : w.heap.size ≤ (wq.alloc (.cells #[.string ⟨#[]⟩] 9)).heap.size := by rw [World.size_alloc]; omega
       have hba := hide (hbq.out.alloc hzq (.cells #[.string ⟨#[]⟩] 9));clear hown hb;go_upto_region 10 with (first | (at_builtin; (with_reducible refine wpList_app rfl (.tmp 38) (.tmp 39) rfl hE.out flat_strv rfl (hownq.out.alloc _) rfl (Sl.lit1' wq 9 (⟨#[]⟩ : ByteArray) _ rfl 1 _ ?d0) ?d1 hza ?_); rotate_right; intro A6 c6 w6 hown6 hgr6 hb6 hat6))
       case d0 => rfl
       case d1 => omega
       obtain ⟨g6, rfl, hg6⟩ := hown6.ne (by omega);have hb7 := hide (hba.out.trans hb6);have hS0 : Hid (Own 1 strv w6 w.heap.size 9 (some ⟨g6, 0, none⟩) (m + 1) c6 (out.take m ++ (⟨#[]⟩ : ByteArray) :: out.drop m)) := by
        show Own _ _ _ _ _ _ _ _ _
        rw [List.take_of_length_le (by omega), List.drop_eq_nil_of_le (by omega)];exact hown6
       clear hown6 hgr6 hb6 hat6 hownq hbq hba hza;go_wp2_with fail;obtain ⟨wP, rfl⟩ : ∃ wP : World, wP = wr := ⟨_, rfl⟩
       go_loopw [6] (fun i wr => ∃ (q : Nat) (y : ByteArray), t ≤ q ∧ q ≤ m ∧ i = .int .i64 (q : Nat) ∧ Hid (Own 1 strv wr w.heap.size 9 (some ⟨g6, 0, none⟩) (m + 1) c6 (out.take q ++ y :: out.drop q)) ∧ Hid (Below w.heap.size w wr)) (fun i _ => (intOf i).toNat)
       case atStart => exact ⟨m, _, htm, zR, by go_num, hS0.out, hb7.out⟩
       case round =>
        clear hS0 hb7;obtain ⟨q, y, hq1, hq2, rfl, hS, hb⟩ := hrel
        by_cases hqt : t < q
        ·have q0 : (t : Int) < (q : Int) := by omega
         obtain ⟨q', rfl⟩ : ∃ q', q = q' + 1 := ⟨q - 1, by omega⟩;have q1 : (0 : Int) ≤ (q' : Int) := by omega
         have q2 : (q' : Int) < (m : Int) + 1 := by omega
         have q3 : (q' : Int) + 1 < (m : Int) + 1 := by omega
         have q4 : (0 : Int) ≤ (q' : Int) + 1 := by omega
         obtain ⟨x1, hx1⟩ : ∃ x, out[q']? = some x := ⟨_, List.getElem?_eq_getElem (by omega)⟩;obtain ⟨ga, oa, xa, ea, -, -, -, hxa, ca, -⟩ := SlS.get (hS.out.sl flat_strv) (show q' < m + 1 by omega)
         cases ea
         rw [Nat.zero_add] at ca;rw [shift_get (by omega) hx1] at hxa;injection hxa with hxa;subst hxa;obtain ⟨gb, ob, xb, eb, -, -, -, -, cb, fb⟩ := SlS.get (hS.out.sl flat_strv) (show q' + 1 < m + 1 by omega)
         cases eb
         rw [Nat.zero_add] at cb fb;have hset := hS.out.setS (q' + 1) x1;rw [shift_set (by omega) hx1] at hset;replace hset := hide hset;have hbs := hide (hb.out.setCell (p := ⟨g6, q' + 1, none⟩) hg6 (.string x1));clear hx1;go_wp2_with fail;go_roundw
         case rel => exact ⟨q', x1, by omega, by omega, by go_num, hset.out, hbs.out⟩
         case measure => simp [intOf]
        ·obtain rfl : q = t := by omega
         have q0 : ¬ (q : Int) < (q : Int) := by omega
         have q1 : (0 : Int) ≤ (q : Int) := by omega
         have q2 : (q : Int) < ((m + 1 : Nat) : Int) := by omega
         have z1 := (hb.out.cell (p := ⟨b, off + k, none⟩) g3).trans c00.out;obtain ⟨g6', o6, x6, e6, -, -, -, -, c6', f6⟩ := SlS.get (hS.out.sl flat_strv) (show q < m + 1 by omega);cases e6;rw [Nat.zero_add] at c6' f6;have hset := hide (hS.out.setS q s);have hfin := shift_end (z := y) (x := s) (show q ≤ out.length by omega);rw [hfin] at hset;have hbs := hide (hb.out.setCell (p := ⟨g6, q, none⟩) hg6 (.string s));have hJ := hide (hna.out _ hput.out);clear hfin;go_wp2_with fail
         go_roundg J2
         case measure => omega
         case rel => exact ⟨k + 1, m + 1, c6, _, _, by omega, rfl, by go_num, hset.out, hJ.out, hbs.out, hJ2.out⟩
  ·obtain rfl : k = n := by omega
   have hkk : ¬ (k : Int) < (k : Int) := by omega
   have hdone : Hid (out = joiF l) := by
    have := hj.out.done;rw [List.take_of_length_le (by rw [hlen.out]; exact zR)] at this;exact this
   clear hj;go_wp2_with fail;go_ret;exact ⟨A2, m, c2, rfl, by rw [← hdone.out]; exact hown.out, hb.out⟩
end Go.Proofs.YtnhomkmfbngmgaaGreatDoor
namespace Go.Proofs.YtnhomkmfbngmgaaGreatDoor
section
variable (src : Nat → Prop) (arc : Nat → Nat → Prop)
def lay : Nat → Nat → Prop
 | 0, k => src k
 | n + 1, k => lay n k ∨ ∃ a, lay n a ∧ arc a k
theorem lay_mono {n m k : Nat} (h : lay src arc n k) (hm : n ≤ m) : lay src arc m k := by
 induction m with
 | zero =>
  have : n = 0 := by omega
  subst this; exact h
 | succ m ih =>
  rcases Nat.lt_or_ge m n with h1 | h1
  ·have : n = m + 1 := by omega
   subst this; exact h
  ·exact .inl (ih h1)
def least (d k : Nat) : Prop := lay src arc d k ∧ ∀ m, m < d → ¬ lay src arc m k
theorem least_uniq {d e k : Nat} (h : least src arc d k) (g : least src arc e k) : d = e := by
 rcases Nat.lt_trichotomy d e with h1 | h1 | h1
 ·exact absurd h.1 (g.2 d h1)
 ·exact h1
 ·exact absurd g.1 (h.2 e h1)
theorem least_of {n k : Nat} (h : lay src arc n k) : ∃ d, d ≤ n ∧ least src arc d k := by
 induction n with
 | zero => exact ⟨0, zR, h, fun m hm => absurd hm (by omega)⟩
 | succ n ih =>
  by_cases h1 : lay src arc n k
  ·obtain ⟨d, h2, h3⟩ := ih h1
   exact ⟨d, by omega, h3⟩
  ·refine ⟨n + 1, zR, h, fun m hm hl => h1 (lay_mono src arc hl (by omega))⟩
theorem least_pred {n k : Nat} (h : least src arc (n + 1) k) : ∃ a, least src arc n a ∧ arc a k := by
 obtain ⟨h1, h2⟩ := h
 rcases h1 with h1 | ⟨a, ha, hk⟩
 ·exact absurd h1 (h2 n (by omega))
 ·refine ⟨a, ⟨ha, fun m hm hl => ?_⟩, hk⟩
  exact h2 (m + 1) (by omega) (.inr ⟨a, hl, hk⟩)
def DistIs (n : Nat) (out : List Int) : Prop := out.length = n ∧ ∀ (k : Nat) (x : Int), out[k]? = some x → (0 ≤ x → least src arc x.toNat k) ∧ (x < 0 → x = -1 ∧ ∀ m, ¬ lay src arc m k)
def RoundIs (N n : Nat) (out : List Int) : Prop := out.length = N ∧ ∀ (k : Nat) (x : Int), out[k]? = some x → (0 ≤ x → least src arc x.toNat k ∧ x ≤ n) ∧ (x < 0 → x = -1 ∧ ¬ lay src arc n k)
theorem RoundIs.start {N : Nat} {out : List Int} (hl : out.length = N) (h : ∀ (k : Nat) (x : Int), out[k]? = some x → (x = 0 ∧ src k) ∨ (x = -1 ∧ ¬ src k)) : RoundIs src arc N 0 out := by
 refine ⟨hl, fun k x hx => ?_⟩
 rcases h k x hx with ⟨rfl, hs⟩ | ⟨rfl, hs⟩
 ·exact ⟨fun _ => ⟨⟨hs, fun m hm => absurd hm (by omega)⟩, by omega⟩, fun h => absurd h (by omega)⟩
 ·exact ⟨fun h => absurd h (by omega), fun _ => ⟨rfl, hs⟩⟩
theorem RoundIs.done {N n : Nat} {out : List Int} (h : RoundIs src arc N n out) (hin : ∀ a k, arc a k → a < N ∧ k < N) (hsrc : ∀ k, src k → k < N)
  (hstop : ∀ (a k : Nat) (x y : Int), arc a k → out[a]? = some x → out[k]? = some y → 0 ≤ x → 0 ≤ y) : DistIs src arc N out := by
 refine ⟨h.1, fun k x hx => ⟨fun h0 => ((h.2 k x hx).1 h0).1, fun h0 => ⟨((h.2 k x hx).2 h0).1, ?_⟩⟩⟩;have key : ∀ (m k : Nat), lay src arc m k → k < N ∧ ∀ x, out[k]? = some x → 0 ≤ x := by
  intro m
  induction m with
  | zero =>
   intro k hk;refine ⟨hsrc k hk, fun x hx => ?_⟩
   rcases Int.lt_or_le x 0 with h1 | h1
   ·exact absurd (lay_mono src arc (n := 0) (m := n) hk (Nat.zero_le _)) ((h.2 k x hx).2 h1).2
   ·exact h1
  | succ m ih =>
   intro k hk
   rcases hk with hk | ⟨a, ha, hak⟩
   ·exact ih k hk
   ·obtain ⟨h1, h2⟩ := ih a ha
    refine ⟨(hin a k hak).2, fun x hx => ?_⟩;have hax : out[a]? = some (out[a]'(by rw [h.1]; exact h1)) := List.getElem?_eq_getElem _;exact hstop a k _ x hak hax hx (h2 _ hax)
 intro m hm;have := (key m k hm).2 x hx;omega
structure QueIs (N : Nat) (out : List Int) (todo : List Nat) : Prop where
 len : out.length = N
 exact_ : ∀ (k : Nat) (x : Int), out[k]? = some x → (0 ≤ x → least src arc x.toNat k) ∧ (x < 0 → x = -1)
 src_ : ∀ k, src k → ∃ x : Int, out[k]? = some x ∧ 0 ≤ x
 todo_ : ∀ k, k ∈ todo → ∃ x : Int, out[k]? = some x ∧ 0 ≤ x
 done_ : ∀ (a k : Nat) (x : Int), out[a]? = some x → 0 ≤ x → a ∉ todo → arc a k → ∃ y : Int, out[k]? = some y ∧ 0 ≤ y
 sorted : todo.Pairwise fun a b => ∀ (x y : Int), out[a]? = some x → out[b]? = some y → x ≤ y
 near : ∀ a, todo.head? = some a → ∀ b, b ∈ todo → ∀ (x y : Int), out[a]? = some x → out[b]? = some y → y ≤ x + 1
theorem QueIs.done {N : Nat} {out : List Int} (h : QueIs src arc N out []) (hin : ∀ a k, arc a k → a < N ∧ k < N) (hsrc : ∀ k, src k → k < N) : DistIs src arc N out := by
 refine ⟨h.len, fun k x hx => ⟨(h.exact_ k x hx).1, fun h0 => ⟨(h.exact_ k x hx).2 h0, ?_⟩⟩⟩;have key : ∀ m k, lay src arc m k → ∃ y : Int, out[k]? = some y ∧ 0 ≤ y := by
  intro m
  induction m with
  | zero => exact fun k hk => h.src_ k hk
  | succ m ih =>
   intro k hk
   rcases hk with hk | ⟨a, ha, hak⟩
   ·exact ih k hk
   ·obtain ⟨y, hy, hy0⟩ := ih a ha
    exact h.done_ a k y hy hy0 (by simp) hak
 intro m hm;obtain ⟨y, hy, hy0⟩ := key m k hm;rw [hx] at hy
 cases hy
 omega
theorem QueIs.found {N : Nat} {out : List Int} {k : Nat} {todo : List Nat} (h : QueIs src arc N out (k :: todo)) {m : Int} (hm : out[k]? = some m) : ∀ (d b : Nat), (d : Int) ≤ m → least src arc d b → ∃ y : Int, out[b]? = some y ∧ 0 ≤ y := by
 intro d
 induction d with
 | zero => exact fun b _ hb => h.src_ b hb.1
 | succ d ih =>
  intro b hd hb;obtain ⟨a, ha, hab⟩ := least_pred src arc hb;obtain ⟨y, hy, hy0⟩ := ih a (by omega) ha;have hyd : y.toNat = d := least_uniq src arc ((h.exact_ a y hy).1 hy0) ha;refine h.done_ a b y hy hy0 ?_ hab;intro hin
  rcases List.mem_cons.1 hin with rfl | hin
  ·rw [hm] at hy
   cases hy
   omega
  ·have := (List.pairwise_cons.1 h.sorted).1 a hin m y hm hy
   omega
theorem QueIs.add {N : Nat} {out : List Int} {k b : Nat} {todo : List Nat} (h : QueIs src arc N out (k :: todo)) {m x : Int} (hm : out[k]? = some m) (hb : out[b]? = some x) (hx : x < 0) (hkb : arc k b) :
  QueIs src arc N (out.set b (m + 1)) (k :: (todo ++ [b])) := by
 have hm0 : 0 ≤ m := by
  obtain ⟨y, hy, hy0⟩ := h.todo_ k (by simp);rw [hm] at hy
  cases hy
  exact hy0
 have hbl : b < out.length := (List.getElem?_eq_some_iff.1 hb).1;have hne : ∀ {j : Nat} {y : Int}, out[j]? = some y → 0 ≤ y → j ≠ b := by
  rintro j y hy hy0 rfl;rw [hb] at hy
  cases hy
  omega
 have hkeep : ∀ {j : Nat} {y : Int}, out[j]? = some y → 0 ≤ y → (out.set b (m + 1))[j]? = some y := fun hy hy0 => by
  rw [List.getElem?_set_ne (fun e => hne hy hy0 e.symm)];exact hy
 have hself : (out.set b (m + 1))[b]? = some (m + 1) := List.getElem?_set_self hbl;have hlay : least src arc (m + 1).toNat b := by
  have hk := (h.exact_ k m hm).1 hm0;rw [show (m + 1).toNat = m.toNat + 1 by omega];refine ⟨.inr ⟨k, hk.1, hkb⟩, fun j hj hl => ?_⟩;obtain ⟨d, hd, hld⟩ := least_of src arc hl;obtain ⟨y, hy, hy0⟩ := h.found src arc hm d b (by omega) hld;rw [hb] at hy
  cases hy
  omega
 have hold : ∀ {j : Nat} {y : Int}, j ∈ k :: todo → (out.set b (m + 1))[j]? = some y → out[j]? = some y := fun hj hy => by
  obtain ⟨z, hz, hz0⟩ := h.todo_ _ hj;rw [hkeep hz hz0] at hy;rw [hz, hy]
 have hmb : ∀ j ∈ k :: todo, ∀ y, out[j]? = some y → y ≤ m + 1 := fun j hj y hy => h.near k rfl j hj m y hm hy
 refine ⟨by rw [List.length_set]; exact h.len, fun j y hy => ?_, fun j hj => ?_, fun j hj => ?_, fun a j y hy hy0 ha haj => ?_, ?_, ?_⟩
 ·by_cases e : j = b
  ·subst e
   rw [hself] at hy
   cases hy
   exact ⟨fun _ => hlay, fun h0 => absurd h0 (by omega)⟩
  ·rw [List.getElem?_set_ne (fun e' => e e'.symm)] at hy
   exact h.exact_ j y hy
 ·obtain ⟨y, hy, hy0⟩ := h.src_ j hj
  exact ⟨y, hkeep hy hy0, hy0⟩
 ·rw [← List.cons_append, List.mem_append] at hj
  rcases hj with hj | hj
  ·obtain ⟨y, hy, hy0⟩ := h.todo_ j hj
   exact ⟨y, hkeep hy hy0, hy0⟩
  ·rw [List.mem_singleton.1 hj]
   exact ⟨_, hself, by omega⟩
 ·have hab : a ≠ b := by
   rintro rfl;exact ha (by simp)
  rw [List.getElem?_set_ne (fun e => hab e.symm)] at hy;obtain ⟨z, hz, hz0⟩ := h.done_ a j y hy hy0 (fun hin => ha (by rw [← List.cons_append, List.mem_append]; exact .inl hin)) haj;exact ⟨z, hkeep hz hz0, hz0⟩
 ·rw [← List.cons_append, List.pairwise_append]
  refine ⟨?_, by simp, fun a ha c hc y z hy hz => ?_⟩
  ·refine List.Pairwise.imp_of_mem ?_ h.sorted
   intro a c ha hc hq y z hy hz;exact hq y z (hold ha hy) (hold hc hz)
  ·rw [List.mem_singleton.1 hc, hself] at hz
   cases hz
   exact hmb a ha y (hold ha hy)
 ·intro a ha c hc y z hy hz
  cases ha
  have hym := hold (by simp) hy;rw [hm] at hym
  cases hym
  rw [← List.cons_append, List.mem_append] at hc
  rcases hc with hc | hc
  ·exact hmb c hc z (hold hc hz)
  ·rw [List.mem_singleton.1 hc, hself] at hz
   cases hz
   omega
theorem QueIs.start {N : Nat} {out : List Int} {todo : List Nat} (hl : out.length = N) (h : ∀ (k : Nat) (x : Int), out[k]? = some x → (x = 0 ∧ src k) ∨ (x = -1 ∧ ¬ src k)) (hs : ∀ k, src k ↔ k ∈ todo) (hN : ∀ k, src k → k < N) : QueIs src arc N out todo := by
 have hz : ∀ k, src k → out[k]? = some 0 := fun k hk => by
  have ho : out[k]? = some (out[k]'(by rw [hl]; exact hN k hk)) := List.getElem?_eq_getElem _
  rcases h k _ ho with ⟨h1, _⟩ | ⟨_, h1⟩
  ·rw [ho, h1]
  ·exact absurd hk h1
 have hzt : ∀ k x, k ∈ todo → out[k]? = some x → x = 0 := fun k x hk hx => by
  rw [hz k ((hs k).2 hk)] at hx;exact (Option.some.inj hx).symm
 refine ⟨hl, fun k x hx => ?_, fun k hk => ⟨0, hz k hk, by omega⟩, fun k hk => ⟨0, hz k ((hs k).2 hk), by omega⟩, fun a k x hx hx0 ha _ => ?_, ?_, fun a ha b hb x y hx hy => ?_⟩
 ·rcases h k x hx with ⟨rfl, h1⟩ | ⟨rfl, h1⟩
  ·exact ⟨fun _ => ⟨h1, fun m hm => absurd hm (by simp)⟩, fun h0 => absurd h0 (by omega)⟩
  ·exact ⟨fun h0 => absurd h0 (by omega), fun _ => rfl⟩
 ·rcases h a x hx with ⟨rfl, h1⟩ | ⟨rfl, h1⟩
  ·exact absurd ((hs a).1 h1) ha
  ·omega
 ·rw [List.pairwise_iff_forall_sublist]
  intro a b hab x y hx hy;have ha := hab.subset (List.mem_cons_self);have hb := hab.subset (List.mem_cons_of_mem a (List.mem_cons_self));rw [hzt a x ha hx, hzt b y hb hy];omega
 ·rw [hzt a x (List.mem_of_mem_head? ha) hx, hzt b y hb hy]
  omega
end
def arcE (fw : Bool) (es : List Ed) (a k : Nat) : Prop := ∃ e : Ed, e ∈ es ∧ (if fw = true then e.1 = (a : Int) ∧ e.2.2 = (k : Int) else e.2.2 = (a : Int) ∧ e.1 = (k : Int))
def srcE (l : List Int) (k : Nat) : Prop := (k : Int) ∈ l
section
variable {N n : Nat} {es : List Ed} {out next : List Int} {i : Nat} {e : Ed}
end
def negs : List Int → Nat
 | [] => 0
 | x :: l => (if x < 0 then 1 else 0) + negs l
theorem negs_set : ∀ {l : List Int} {k : Nat} {z v : Int}, l[k]? = some z → z < 0 → 0 ≤ v → negs (l.set k v) + 1 = negs l
 | [], k, z, v, h, _, _ => by simp at h
 | x :: l, 0, z, v, h, hz, hv => by
  simp at h
  subst h;simp only [List.set_cons_zero, negs];rw [if_neg (by omega), if_pos hz];omega
 | x :: l, k + 1, z, v, h, hz, hv => by
  have := negs_set (l := l) (k := k) (v := v) (by simpa using h) hz hv;simp only [List.set_cons_succ, negs];omega
section
variable {es : List Ed} {vs : List Int} {N rd i : Nat} {out nx : List Int}
end
open Go.ChangeAt Go.ChangeShapes Go.RowKit Go.WideShapes
def inS (s : List Bool) (v : Nat) : Bool := s[v]?.getD false
theorem inS_some {s : List Bool} {v : Nat} {b : Bool} (h : s[v]? = some b) : inS s v = b := by unfold inS; rw [h]; rfl
theorem inS_big {s : List Bool} {v : Nat} (h : s.length ≤ v) : inS s v = false := by unfold inS; rw [List.getElem?_eq_none h]; rfl
theorem inS_get {s : List Bool} {v : Nat} (h : v < s.length) : s[v]? = some (inS s v) := by unfold inS; rw [List.getElem?_eq_getElem h]; rfl
theorem inS_set {s : List Bool} {v u : Nat} {b : Bool} (h : v < s.length) : inS (s.set v b) u = if v = u then b else inS s u := by
 unfold inS
 by_cases e : v = u
 ·subst e; rw [List.getElem?_set_self h]; simp
 ·rw [List.getElem?_set_ne e]; simp [e]
def setOf (n : Nat) (p : Nat → Bool) : List Bool := (List.range n).map p
theorem setOf_len (n : Nat) (p : Nat → Bool) : (setOf n p).length = n := by simp [setOf]
theorem setOf_get {n : Nat} {p : Nat → Bool} {v : Nat} (h : v < n) : (setOf n p)[v]? = some (p v) := by simp [setOf, h]
theorem inS_setOf {n : Nat} {p : Nat → Bool} {v : Nat} : inS (setOf n p) v = (decide (v < n) && p v) := by
 by_cases h : v < n
 ·rw [inS_some (setOf_get h)]; simp [h]
 ·rw [inS_big (by rw [setOf_len]; omega)]; simp [h]
def bv (b : Bool) : List Value := [.bool b]
abbrev SlB := Sl 1 bv
theorem flat_bv : Flat bv 1 := ⟨fun _ => rfl, fun x u h => by simp [bv] at h; subst h; rfl⟩
theorem info_bool : (Tryz.prog.info? 4).map (fun i => (i.zero, i.size, i.bytes)) = some (some (.bool false), 1, 1) := by kernel_rfl
theorem elem_int64 : Elem Tryz.prog 32 2 1 8 := Elem.of Tryz.underlying32 info_int64 rfl (by omega) (by omega)
section
variable {w w' : World} {lo hi n : Nat} {A : Option Addr}
theorem SlB.get {l : List Bool} (h : SlB w lo hi A n l) {k : Nat} (hk : k < n) :
  ∃ b off, A = some ⟨b, off, none⟩ ∧ lo ≤ b ∧ b < hi ∧ b < w.heap.size ∧ l[k]? = some (inS l k) ∧ w.cell? ⟨b, off + k, none⟩ = some (.bool (inS l k)) ∧ w.frozen? ⟨b, off + k, none⟩ = false := by
 obtain ⟨b, off, e, g1, g2, g3, hc⟩ := h.at_ (by omega);have hl : k < l.length := by rw [h.len]; exact hk
 have h0 := hc k (inS l k) (inS_get hl) 0 _ rfl;simp only [Nat.mul_one, Nat.add_zero] at h0;exact ⟨b, off, e, g1, g2, g3, inS_get hl, h0.1, h0.2⟩
theorem SlB.put {b off : Nat} {l : List Bool} (h : SlB w lo hi (some ⟨b, off, none⟩) n l) {k : Nat} (hk : k < n) (x : Bool) : SlB (w.setCell ⟨b, off + k, none⟩ (.bool x)) lo hi (some ⟨b, off, none⟩) n (l.set k x) := by
 have := h.putN hk (fun _ => rfl) x
 simpa [putCells, bv] using this
theorem SlI.put' {b off : Nat} {l : List Int} (h : SlI w lo hi (some ⟨b, off, none⟩) n l) {k : Nat} (hk : k < n) (x : Int) : SlI (w.setCell ⟨b, off + k, none⟩ (.int .i64 x)) lo hi (some ⟨b, off, none⟩) n (l.set k x) := h.put hk x
end
theorem SlB.made (w : World) (n : Nat) : SlB (w.alloc (.cells (madeCells #[.bool false] n) 4)) w.heap.size (w.heap.size + 1) (some ⟨w.heap.size, 0, none⟩) n (setOf n fun _ => false) := by
 refine ⟨setOf_len _ _, fun hn => ⟨w.heap.size, 0, rfl, zR, by omega, by simp, fun k x hx j u hu => ?_⟩⟩;have hk : k < n := by
  have := (List.getElem?_eq_some_iff.1 hx).1
  rwa [setOf_len] at this
 rw [setOf_get hk] at hx
 cases hx
 have hj : j = 0 := by
  have := (List.getElem?_eq_some_iff.1 hu).1
  simp [bv] at this
  exact this
 subst hj
 simp [bv] at hu
 subst hu;have hg := heap_alloc_new w (.cells (madeCells #[.bool false] n) 4);refine ⟨(cell_of_row _ _ _ _ _ (0, 0) hg).trans ?_, frozen_of_row _ _ _ _ _ hg⟩
 simp [madeCells, Value.cells, hk, Nat.mod_one]
theorem run_make_bool (n : Nat) (hn : n ≤ 1048576) (W : World) : (Instr.makeSlice 135 (.int .i64 (n : Int)) (.int .i64 (n : Int))).run Tryz.prog W = .ok (.slice (some ⟨W.heap.size, 0, none⟩) n n) (W.alloc (.cells (madeCells #[.bool false] n) 4)) := by
 obtain ⟨i0, hi0, hz0, hz1, hz2⟩ := info_parts info_bool;have h := make_row (P := Tryz.prog) 135 4 i0 _ _ n Tryz.underlying135 hi0 hz0 hz1 (by rw [hz2]; omega) (by omega) W;rw [Nat.mul_one] at h;exact h
def intK (n k : Nat) (p : Nat → Int) : List Int := (List.range n).map fun v => if v < k then p v else 0
theorem intK_len (n k : Nat) (p : Nat → Int) : (intK n k p).length = n := by simp [intK]
theorem intK_all (n : Nat) (p : Nat → Int) : intK n n p = (List.range n).map p := by
 unfold intK
 apply List.map_congr_left
 intro v hv;rw [if_pos (List.mem_range.1 hv)]
theorem intK_step {n k : Nat} {p : Nat → Int} (hk : k < n) : (intK n k p).set k (p k) = intK n (k + 1) p := by
 apply List.ext_getElem?
 intro i
 by_cases e : k = i
 ·subst e
  rw [List.getElem?_set_self (by rw [intK_len]; exact hk)]
  simp [intK, hk]
 ·rw [List.getElem?_set_ne e]
  by_cases hi : i < n
  ·simp only [intK, List.getElem?_map, List.getElem?_range hi, Option.map_some]
   have : (i < k) ↔ (i < k + 1) := by omega
   simp [this]
  ·rw [List.getElem?_eq_none (by rw [intK_len]; omega), List.getElem?_eq_none (by rw [intK_len]; omega)]
theorem run_make_int (n : Nat) (hn : n ≤ 1048576) (W : World) : (Instr.makeSlice 32 (.int .i64 (n : Int)) (.int .i64 (n : Int))).run Tryz.prog W = .ok (.slice (some ⟨W.heap.size, 0, none⟩) n n) (W.alloc (.cells (madeCells #[.int .i64 0] n) 2)) := by
 obtain ⟨i0, hi0, hz0, hz1, hz2⟩ := info_parts info_int64;have h := make_row (P := Tryz.prog) 32 2 i0 _ _ n Tryz.underlying32 hi0 hz0 hz1 (by rw [hz2]; omega) (by omega) W;rw [Nat.mul_one] at h;exact h
theorem SlI.made (w : World) (n : Nat) (p : Nat → Int) : SlI (w.alloc (.cells (madeCells #[.int .i64 0] n) 2)) w.heap.size (w.heap.size + 1) (some ⟨w.heap.size, 0, none⟩) n (intK n 0 p) := by
 refine ⟨intK_len _ _ _, fun hn => ⟨w.heap.size, 0, rfl, zR, by omega, by simp, fun k x hx j u hu => ?_⟩⟩;have hk : k < n := by
  have := (List.getElem?_eq_some_iff.1 hx).1
  rwa [intK_len] at this
 have hx0 : x = 0 := by
  simp only [intK, List.getElem?_map, List.getElem?_range hk, Option.map_some] at hx
  simp at hx
  exact hx.symm
 subst hx0;have hj : j = 0 := by
  have := (List.getElem?_eq_some_iff.1 hu).1
  simp [iv] at this
  exact this
 subst hj
 simp [iv] at hu
 subst hu;have hg := heap_alloc_new w (.cells (madeCells #[.int .i64 0] n) 2);refine ⟨(cell_of_row _ _ _ _ _ (0, 0) hg).trans ?_, frozen_of_row _ _ _ _ _ hg⟩
 simp [madeCells, hk, Nat.mod_one]
def OwnQ (w : World) (base : Nat) (A : Option Addr) (n c : Nat) (l : List Int) : Prop :=
 l.length = n ∧ ((A = none ∧ n = 0 ∧ c = 0) ∨ ∃ g off cur, A = some ⟨g, off, none⟩ ∧ base ≤ g ∧ w.heap[g]? = some (.cells cur 2 (0, 0)) ∧ n ≤ c ∧ c ≤ maxLen ∧ off + c ≤ cur.size ∧ ∀ (i : Nat) (x : Int), l[i]? = some x → cur[off + i]? = some (.int .i64 x))
section
variable {w w' : World} {base n c : Nat} {A : Option Addr} {l : List Int}
theorem OwnQ.len (h : OwnQ w base A n c l) : l.length = n := h.1
theorem OwnQ.of (h : Own 1 iv w base 2 A n c l) : OwnQ w base A n c l := by
 refine ⟨h.1, ?_⟩
 rcases h.2.2 with ⟨hv, h0⟩ | ⟨g, cap, cur, hv, hb, hg, hnc, hcm, hcs, htake⟩
 ·injection hv with h1 _ h3
  exact .inl ⟨h1, h0, h3⟩
 ·injection hv with h1 _ h3
  subst h1 h3;refine .inr ⟨g, 0, cur, rfl, hb, hg, hnc, hcm, by omega, fun i x hx => ?_⟩;have h1 := flat_at flat_iv l i x hx 0 _ rfl;rw [← htake] at h1;rw [List.getElem?_take] at h1
  split at h1
  ·simpa using h1
  ·cases h1
theorem OwnQ.keep (h : OwnQ w base A n c l) (hk : ∀ g, base ≤ g → (Value.slice A n c).ownBlock = some g → w'.heap[g]? = w.heap[g]?) : OwnQ w' base A n c l := by
 refine ⟨h.1, ?_⟩
 rcases h.2 with hn | ⟨g, off, cur, rfl, hb, hg, rest⟩
 ·exact .inl hn
 ·exact .inr ⟨g, off, cur, rfl, hb, (hk g hb rfl).trans hg, rest⟩
theorem OwnQ.lt (h : OwnQ w base A n c l) : ∀ g, (Value.slice A n c).ownBlock = some g → base ≤ g ∧ g < w.heap.size := by
 intro g hg
 rcases h.2 with ⟨rfl, _⟩ | ⟨g', off, cur, rfl, hb, hg', rest⟩
 ·cases hg
 ·cases hg
  exact ⟨hb, (Array.getElem?_eq_some_iff.1 hg').1⟩
theorem OwnQ.kept {row : Option Nat} (h : OwnQ w base A n c l) (hg : w.grownBy w' row) (hne : (Value.slice A n c).ownBlock = none ∨ (Value.slice A n c).ownBlock ≠ row) : OwnQ w' base A n c l :=
 h.keep fun g _ e => hg.block g (h.lt g e).2 (by
  rcases hne with hne | hne
  ·rw [e] at hne; cases hne
  ·rw [e] at hne; exact hne)
theorem OwnQ.alloc (h : OwnQ w base A n c l) (o : Obj) : OwnQ (w.alloc o) base A n c l := h.kept (World.grownBy_alloc w o none) (by cases (Value.slice A n c).ownBlock <;> simp)
theorem OwnQ.drewN (h : OwnQ w base A n c l) (k : Nat) : OwnQ (w.drewN k) base A n c l := h
theorem OwnQ.head {x : Int} {r : List Int} (h : OwnQ w base A n c (x :: r)) : ∃ g off, A = some ⟨g, off, none⟩ ∧ w.cell? ⟨g, off, none⟩ = some (.int .i64 x) ∧ 0 < n ∧ n ≤ c := by
 have hl := h.1
 simp at hl
 rcases h.2 with ⟨rfl, h0, _⟩ | ⟨g, off, cur, rfl, hb, hg, h1, h2, h3, h4⟩
 ·omega
 ·refine ⟨g, off, rfl, (cell_of_row w g off cur _ (0, 0) hg).trans ?_, by omega, h1⟩
  have := h4 0 x rfl
  simpa using this
theorem OwnQ.cut {x : Int} {r : List Int} (h : OwnQ w base A n c (x :: r)) : OwnQ w base (cutA A 1 c 1) (n - 1) (c - 1) r := by
 have hl := h.1
 simp at hl
 rcases h.2 with ⟨rfl, h0, _⟩ | ⟨g, off, cur, rfl, hb, hg, h1, h2, h3, h4⟩
 ·omega
 ·refine ⟨by omega, .inr ?_⟩
  by_cases hc : c = 1
  ·subst hc
   refine ⟨g, off, cur, by simp [cutA], hb, hg, by omega, by unfold maxLen; omega, by omega, fun i y hy => ?_⟩;have hr : r = [] := List.eq_nil_of_length_eq_zero (by omega);subst hr
   simp at hy
  ·refine ⟨g, off + 1, cur, by unfold cutA; rw [if_neg hc, Option.map_some, addr_add], hb, hg, by omega, by omega, by omega, fun i y hy => ?_⟩
   have := h4 (i + 1) y (by simpa using hy);rw [show off + 1 + i = off + (i + 1) by omega];exact this
end
open Go.Sort
structure MemD (W : World) (bo oo n : Nat) (out : List Int) (qb : Nat) (A : Option Addr) (q c : Nat) (todo : List Int) : Prop where
 out : SlI W bo (bo + 1) (some ⟨bo, oo, none⟩) n out
 que : OwnQ W qb A q c todo
 o1 : bo < qb
 o2 : qb ≤ W.heap.size
section
variable {W W' : World} {bo oo n qb q c : Nat} {out : List Int} {A : Option Addr} {todo : List Int}
theorem MemD.put (h : MemD W bo oo n out qb A q c todo) {k : Nat} (hk : k < n) (x : Int) : MemD (W.setCell ⟨bo, oo + k, none⟩ (.int .i64 x)) bo oo n (out.set k x) qb A q c todo :=
 ⟨SlI.put' h.out hk x, h.que.keep fun g hg _ => Below.heap_setCell _ _ _ _ (by have := h.o1; show g ≠ bo; omega), h.o1, by rw [World.size_setCell]; exact h.o2⟩
theorem MemD.alloc (h : MemD W bo oo n out qb A q c todo) (o : Obj) : MemD (W.alloc o) bo oo n out qb A q c todo := by
 have h1 := h.o1;have h2 := h.o2;exact ⟨Sl.keep h.out (by simp) fun b _ _ hb => Below.heap_alloc _ _ _ hb, h.que.alloc o, h1, by simp; omega⟩
theorem MemD.drewN (h : MemD W bo oo n out qb A q c todo) (k : Nat) : MemD (W.drewN k) bo oo n out qb A q c todo := ⟨h.out.drewN k, h.que.drewN k, h.o1, h.o2⟩
theorem MemD.app (h : MemD W bo oo n out qb A q c todo) {A' : Option Addr} {q' c' : Nat} {todo' : List Int} (hq : OwnQ W' qb A' q' c' todo') (hg : W.grownBy W' (Value.slice A q c).ownBlock) : MemD W' bo oo n out qb A' q' c' todo' := by
 have h1 := h.o1;have h2 := h.o2;have hne : ∀ b, b < qb → some b ≠ (Value.slice A q c).ownBlock := fun b hb e => by
  have := (h.que.lt b e.symm).1;omega
 exact ⟨Sl.keep h.out hg.size fun b hb1 hb2 hb3 => hg.block b hb3 (hne b (by omega)), hq, h1, Nat.le_trans h2 hg.size⟩
theorem MemD.cut {x : Int} (h : MemD W bo oo n out qb A q c (x :: todo)) : MemD W bo oo n out qb (cutA A 1 c 1) (q - 1) (c - 1) todo := ⟨h.out, h.que.cut, h.o1, h.o2⟩
end
def Marks (N : Nat) (l : List Int) (k : Nat) (out : List Int) : Prop := out.length = N ∧ ∀ (j : Nat) (x : Int), out[j]? = some x → (x = 0 ∧ (j : Int) ∈ l.take k) ∨ (x = -1 ∧ ¬ (j : Int) ∈ l.take k)
theorem Marks.zero (N : Nat) (l : List Int) : Marks N l 0 (List.replicate N (-1)) := by
 refine ⟨by simp, fun j x hx => .inr ⟨?_, by simp⟩⟩;exact List.eq_of_mem_replicate (List.mem_of_getElem? hx)
theorem Marks.step {N : Nat} {l : List Int} {k v : Nat} {out : List Int} (h : Marks N l k out) (hx : l[k]? = some (v : Int)) : Marks N l (k + 1) (out.set v 0) := by
 refine ⟨by rw [List.length_set]; exact h.1, fun j x hj => ?_⟩;have hmem : ∀ i : Nat, (i : Int) ∈ l.take (k + 1) ↔ (i : Int) ∈ l.take k ∨ i = v := fun i => by
  rw [List.take_add_one, hx, List.mem_append]
  constructor
  ·rintro (h1 | h1)
   ·exact .inl h1
   ·simp at h1
    exact .inr (by omega)
  ·rintro (h1 | h1)
   ·exact .inl h1
   ·subst h1
    exact .inr (by simp)
 by_cases e : v = j
 ·subst e
  have hl : v < out.length := by
   have := (List.getElem?_eq_some_iff.1 hj).1
   rwa [List.length_set] at this
  rw [List.getElem?_set_self hl] at hj;exact .inl ⟨(Option.some.inj hj).symm, (hmem v).2 (.inr rfl)⟩
 ·rw [List.getElem?_set_ne e] at hj
  rcases h.2 j x hj with ⟨h1, h2⟩ | ⟨h1, h2⟩
  ·exact .inl ⟨h1, (hmem j).2 (.inl h2)⟩
  ·exact .inr ⟨h1, fun hc => by
    rcases (hmem j).1 hc with h3 | h3
    ·exact h2 h3
    ·exact e h3.symm⟩
theorem Marks.all {N n : Nat} {l : List Int} {out : List Int} (h : Marks N l n out) (hl : l.length ≤ n) : ∀ (j : Nat) (x : Int), out[j]? = some x → (x = 0 ∧ srcE l j) ∨ (x = -1 ∧ ¬ srcE l j) := fun j x hx => by
 have := h.2 j x hx
 rwa [List.take_of_length_le hl] at this
def FoundE (fw : Bool) (es : List Ed) (i : Nat) (k : Nat) (out : List Int) : Prop := ∀ b, arcE fw (es.take i) k b → ∃ y : Int, out[b]? = some y ∧ 0 ≤ y
theorem arc_take_succ {fw : Bool} {es : List Ed} {i : Nat} {e : Ed} (hx : es[i]? = some e) {a b : Nat} (h : arcE fw (es.take (i + 1)) a b) : arcE fw (es.take i) a b ∨ (if fw = true then e.1 = (a : Int) ∧ e.2.2 = (b : Int) else e.2.2 = (a : Int) ∧ e.1 = (b : Int)) := by
 obtain ⟨e', hm, h⟩ := h;rw [List.take_add_one, hx, List.mem_append] at hm
 rcases hm with hm | hm
 ·exact .inl ⟨e', hm, h⟩
 ·simp at hm
  subst hm;exact .inr h
theorem FoundE.zero (fw : Bool) (es : List Ed) (k : Nat) (out : List Int) : FoundE fw es 0 k out := by
 rintro b ⟨e, hm, _⟩
 simp at hm
theorem FoundE.skip {fw : Bool} {es : List Ed} {i k : Nat} {out : List Int} {e : Ed} (h : FoundE fw es i k out) (hx : es[i]? = some e)
  (hs : ∀ b : Nat, (if fw = true then e.1 = (k : Int) ∧ e.2.2 = (b : Int) else e.2.2 = (k : Int) ∧ e.1 = (b : Int)) → ∃ y : Int, out[b]? = some y ∧ 0 ≤ y) : FoundE fw es (i + 1) k out := fun b hb => by
 rcases arc_take_succ hx hb with h1 | h1
 ·exact h b h1
 ·exact hs b h1
theorem FoundE.set {fw : Bool} {es : List Ed} {i k : Nat} {out : List Int} (h : FoundE fw es i k out) (v : Nat) {x : Int} (hx : 0 ≤ x) (hv : v < out.length) : FoundE fw es i k (out.set v x) := fun b hb => by
 obtain ⟨y, hy, hy0⟩ := h b hb
 by_cases e : v = b
 ·subst e
  exact ⟨x, List.getElem?_set_self hv, hx⟩
 ·exact ⟨y, by rw [List.getElem?_set_ne e]; exact hy, hy0⟩
def BoundD (N : Nat) (out : List Int) : Prop := ∀ (j : Nat) (x : Int), out[j]? = some x → x + (negs out : Int) ≤ (N : Int)
theorem BoundD.set {N v : Nat} {out : List Int} (h : BoundD N out) {k : Nat} {m z : Int} (hk : out[k]? = some m) (hz : out[v]? = some z) (hz0 : z < 0) (hm : 0 ≤ m) : BoundD N (out.set v (m + 1)) := fun j x hj => by
 have hn := negs_set (v := m + 1) hz hz0 (by omega);have h1 := h k m hk
 by_cases e : v = j
 ·subst e
  rw [List.getElem?_set_self (List.getElem?_eq_some_iff.1 hz).1] at hj;have := Option.some.inj hj;omega
 ·rw [List.getElem?_set_ne e] at hj
  have := h j x hj;omega
end Go.Proofs.YtnhomkmfbngmgaaGreatDoor
namespace Go.Proofs.YtnhomkmfbngmgaaGreatDoor
def WayE (es : List Ed) : Nat → List Int → Nat → Prop
 | x, [], y => x = y
 | x, i :: l, y => ∃ (e : Ed) (z : Nat), 0 ≤ i ∧ es[i.toNat]? = some e ∧ e.1 = (x : Int) ∧ e.2.2 = (z : Int) ∧ WayE es z l y
theorem WayE.snoc {es : List Ed} {x z : Nat} {l : List Int} {i : Int} {e : Ed} {y : Nat} (h : WayE es x l y) (h0 : 0 ≤ i) (hi : es[i.toNat]? = some e) (h1 : e.1 = (y : Int)) (h2 : e.2.2 = (z : Int)) : WayE es x (l ++ [i]) z := by
 induction l generalizing x with
 | nil =>
  have h : x = y := h;subst h;exact ⟨e, z, h0, hi, h1, h2, rfl⟩
 | cons j l ih =>
  obtain ⟨e', z', g0, g1, g2, g3, g4⟩ := h;exact ⟨e', z', g0, g1, g2, g3, ih g4⟩
theorem WayE.range {es : List Ed} {x y : Nat} {l : List Int} (h : WayE es x l y) : ∀ i, i ∈ l → 0 ≤ i ∧ i < (es.length : Int) := by
 induction l generalizing x with
 | nil => exact fun i hi => absurd hi List.not_mem_nil
 | cons j l ih =>
  obtain ⟨e', z', g0, g1, g2, g3, g4⟩ := h;intro i hi
  rcases List.mem_cons.1 hi with rfl | hi
  ·have := (List.getElem?_eq_some_iff.1 g1).1
   omega
  ·exact ih g4 i hi
theorem drop_cons {α : Type} {l : List α} {k : Nat} {x : α} (h : l[k]? = some x) : l.drop k = x :: l.drop (k + 1) := by
 obtain ⟨h1, h2⟩ := List.getElem?_eq_some_iff.1 h;rw [List.drop_eq_getElem_cons h1, h2]
theorem WayE.step {es : List Ed} {x y k : Nat} {l : List Int} {i : Int} (h : WayE es x (l.drop k) y) (hi : l[k]? = some i) : ∃ (e : Ed) (z : Nat), 0 ≤ i ∧ es[i.toNat]? = some e ∧ e.1 = (x : Int) ∧ e.2.2 = (z : Int) ∧ WayE es z (l.drop (k + 1)) y := by
 rw [drop_cons hi] at h;exact h
theorem WayE.done {es : List Ed} {x y k : Nat} {l : List Int} (h : WayE es x (l.drop k) y) (hk : l.length ≤ k) : x = y := by
 rw [List.drop_eq_nil_of_le hk] at h;exact h
open Go.ChangeAt Go.ChangeShapes Go.RowKit Go.WideShapes
abbrev RowsI (most : Nat) := RowsG (id : Hd → Hd) 1 sv 1 iv most
abbrev HI := Option Addr × Nat
def hiV (N : Nat) (x : HI) : List Value := [.slice x.1 N x.2]
theorem flat_hiV (N : Nat) : Flat (hiV N) 1 := ⟨fun _ => rfl, fun x u h => by simp [hiV] at h; subst h; rfl⟩
theorem elem_rowI : Elem Tryz.prog 162 32 1 24 := Elem.of (z := .slice none 0 0) Tryz.underlying162 (by kernel_rfl) rfl (by omega) (by omega)
structure GrowI (w : World) (base N : Nat) (A : Option Addr) (n c : Nat) (R : List (HI × List Int)) : Prop where
 own : Own 1 (hiV N) w base 32 A n c (R.map (·.1))
 rows : ∀ r ∈ R, SlI w base w.heap.size r.1.1 N r.2
 off : ∀ r ∈ R, 0 < N → ∀ b off, r.1.1 = some ⟨b, off, none⟩ → (Value.slice A n c).ownBlock ≠ some b
section
variable {w w4 w5 w' : World} {base N n c : Nat} {A : Option Addr} {R : List (HI × List Int)}
theorem GrowI.len (h : GrowI w base N A n c R) : R.length = n := by have := h.own.len; rwa [List.length_map] at this
theorem GrowI.nil_ (w : World) (base N : Nat) : GrowI w base N none 0 0 [] := ⟨Own.nil_ _ _ _, fun _ h => (List.not_mem_nil h).elim, fun _ h => (List.not_mem_nil h).elim⟩
theorem GrowI.keep (h : GrowI w base N A n c R) (hs : w.heap.size ≤ w'.heap.size) (hk : ∀ b, base ≤ b → b < w.heap.size → w'.heap[b]? = w.heap[b]?) : GrowI w' base N A n c R :=
 ⟨h.own.keep fun g hg => hk g (h.own.lt g hg).1 (h.own.lt g hg).2, fun r hr => ((h.rows r hr).keep hs fun b h1 _ h3 => hk b h1 h3).more zR hs, h.off⟩
theorem GrowI.below (h : GrowI w base N A n c R) (hb : Below w.heap.size w w') : GrowI w' base N A n c R := h.keep hb.size fun b _ h2 => hb.block b h2
theorem GrowI.one {Ah : Option Addr} {ch : Nat} {s : List Int} (hs : SlI w base w.heap.size Ah N s) (hb : base ≤ w.heap.size) : GrowI (w.alloc (.cells #[.slice Ah N ch] 32)) base N (some ⟨w.heap.size, 0, none⟩) 1 1 [((Ah, ch), s)] := by
 have hbel : Below w.heap.size w (w.alloc (.cells #[.slice Ah N ch] 32)) := bR.alloc zR _;refine ⟨⟨rfl, by simp [hiV], .inr ⟨w.heap.size, 1, #[.slice Ah N ch], rfl, hb, heap_alloc_new w _, zR, by decide, rfl, rfl⟩⟩, fun r hr => ?_, fun r hr hN b off e => ?_⟩
 ·obtain rfl := List.mem_singleton.1 hr
  exact (hs.below hbel (.inr zR)).more zR hbel.size
 ·obtain rfl := List.mem_singleton.1 hr
  obtain ⟨b', off', e', -, -, g3, -⟩ := hs.at_ hN;have e : Ah = _ := e;rw [e] at e'
  cases e'
  intro e2;have e2 : some w.heap.size = some b := e2;injection e2 with e2;omega
theorem GrowI.push (h : GrowI w4 base N A n c R) {Ah : Option Addr} {ch : Nat} {s : List Int} (hs : SlI w4 base w4.heap.size Ah N s) (ho : ∀ b off, 0 < N → Ah = some ⟨b, off, none⟩ → (Value.slice A n c).ownBlock ≠ some b)
  {A5 : Option Addr} {c5 : Nat} (hown : Own 1 (hiV N) w5 base 32 A5 (n + 1) c5 (R.map (·.1) ++ [(Ah, ch)])) (hgr : w4.grownBy w5 (Value.slice A n c).ownBlock)
  (hat : (Value.slice A5 (n + 1) c5).ownBlock = (Value.slice A n c).ownBlock ∨ (Value.slice A5 (n + 1) c5).ownBlock = some w4.heap.size) :
  GrowI w5 base N A5 (n + 1) c5 (R ++ [((Ah, ch), s)]) := by
 have hz5 := hgr.size;have keepS : ∀ (B : Option Addr) (l : List Int), SlI w4 base w4.heap.size B N l → (∀ b off, 0 < N → B = some ⟨b, off, none⟩ → (Value.slice A n c).ownBlock ≠ some b) → SlI w5 base w5.heap.size B N l := by
  intro B l hl hne;refine ⟨hl.1, fun hm => ?_⟩;obtain ⟨b, off, rfl, g1, g2, g3, hc⟩ := hl.2 hm;have hk := hgr.block b g3 (fun e => hne b off hm rfl e.symm);refine ⟨b, off, rfl, g1, by omega, by omega, fun k x hx j u hu => ?_⟩;obtain ⟨h1, h2⟩ := hc k x hx j u hu;exact ⟨(World.cell?_of_block (w := w4) (by simpa using hk)).trans h1, (World.frozen?_of_block (w := w4) (by simpa using hk)).trans h2⟩
 have hoff : ∀ (B : Option Addr) (l : List Int), SlI w4 base w4.heap.size B N l → (∀ b off, 0 < N → B = some ⟨b, off, none⟩ → (Value.slice A n c).ownBlock ≠ some b) → ∀ b off, 0 < N → B = some ⟨b, off, none⟩ → (Value.slice A5 (n + 1) c5).ownBlock ≠ some b := by
  intro B l hl hne b off hN e
  rcases hat with h1 | h1
  ·rw [h1]; exact hne b off hN e
  ·rw [h1]
   obtain ⟨b', off', e', -, -, g3, -⟩ := hl.at_ hN;rw [e] at e'
   cases e'
   intro e2;injection e2 with e2;omega
 refine ⟨by rw [List.map_append]; exact hown, fun r hr => ?_, fun r hr hm b off e => ?_⟩
 ·rcases List.mem_append.1 hr with hr | hr
  ·exact keepS _ _ (h.rows r hr) fun b off hm e => h.off r hr hm b off e
  ·obtain rfl := List.mem_singleton.1 hr
   exact keepS _ _ hs ho
 ·rcases List.mem_append.1 hr with hr | hr
  ·exact hoff _ _ (h.rows r hr) (fun b off hm e => h.off r hr hm b off e) b off hm e
  ·obtain rfl := List.mem_singleton.1 hr
   exact hoff _ _ hs ho b off hm e
theorem GrowI.get (h : GrowI w base N A n c R) {k : Nat} (hk : k < n) : ∃ b off Ah ch s, A = some ⟨b, off, none⟩ ∧ base ≤ b ∧ b < w.heap.size ∧ R[k]? = some ((Ah, ch), s) ∧ w.cell? ⟨b, off + k, none⟩ = some (.slice Ah N ch) ∧ SlI w base w.heap.size Ah N s ∧
  ∀ b off, 0 < N → Ah = some ⟨b, off, none⟩ → (Value.slice A n c).ownBlock ≠ some b := by
 have hl := h.len;obtain ⟨b, off, e, g1, g2, g3, hc⟩ := (h.own.sl (flat_hiV N)).at_ (by omega);have hr : R[k]? = some R[k] := List.getElem?_eq_getElem (by omega);have hm : R[k] ∈ R := List.getElem_mem _;have h0 := (hc k R[k].1 (by rw [List.getElem?_map, hr]; rfl) 0 _ rfl).1;rw [Nat.mul_one, Nat.add_zero] at h0;exact ⟨b, off, R[k].1.1, R[k].1.2, R[k].2, e, g1, g3, hr, h0, h.rows _ hm, fun b off hN e => h.off _ hm hN b off e⟩
theorem GrowI.rowsI (h : GrowI w base N A n c R) (hN : N ≤ 1048576) : RowsI 1048576 w base w.heap.size A n (R.map fun r => ((r.1.1, N, r.1.2), r.2)) := by
 refine ⟨?_, fun r hr => ?_⟩
 ·have := h.own.sl (flat_hiV N)
  refine ⟨by have := h.len; simp [this], fun hn => ?_⟩;obtain ⟨b, off, e, g1, g2, g3, hc⟩ := this.at_ hn;refine ⟨b, off, e, g1, g2, g3, fun k x hx j u hu => ?_⟩;rw [List.getElem?_map, List.getElem?_map] at hx;obtain ⟨r, hr, rfl⟩ := Option.map_eq_some_iff.1 hx;obtain ⟨r2, hr2, rfl⟩ := Option.map_eq_some_iff.1 hr;exact hc k r2.1 (by rw [List.getElem?_map, hr2]; rfl) j u hu
 ·obtain ⟨r2, hr2, rfl⟩ := List.mem_map.1 hr
  exact ⟨h.rows r2 hr2, hN⟩
end
def fstG {α : Type} (G : α → Bool) (l : List α) (i : Int) : Prop := (i = -1 ∧ l.any G = false) ∨ ∃ k : Nat, i = k ∧ k < l.length ∧ (l.take k).any G = false ∧ ∃ x, l[k]? = some x ∧ G x = true
theorem equalI_calls (A B : Option Addr) (n m c d : Nat) (l r : List Int) (w : World) (lo hi lo' hi' : Nat) (h : SlI w lo hi A n l) (g : SlI w lo' hi' B m r) (hn : n ≤ 1048576) (hm : m ≤ 1048576) :
  Calls Tryz.prog 80 #[.slice A n c, .slice B m d] w fun e w' => e = .returned (.bool (decide (l = r))) ∧ Below w.heap.size w w' := by
 have hl := hide h.len;have hr := hide g.len
 by_cases hnm : n = m
 ·subst hnm
  replace h := hide h;replace g := hide g;go_enter Tryz.func80, Tryz.ntmps80
  go_wp2
  go_loopw [13] (fun i wr => ∃ k : Nat, k ≤ n ∧ i = .int .i64 k ∧ Below w.heap.size w wr ∧ l.take k = r.take k) (fun i _ => n - (intOf i).toNat)
  case atStart => exact ⟨0, Nat.zero_le _, rfl, bR, rfl⟩
  case round =>
   obtain ⟨k, hk, rfl, hb, he⟩ := hrel;replace he := hide he
   by_cases hlt : k < n
   ·obtain ⟨b, off, x, rfl, g1, g2, g3, hx, c0, -⟩ := h.out.get hlt
    obtain ⟨b', off', y, rfl, g1', g2', g3', hy, d0, -⟩ := g.out.get hlt;replace c0 := (hb.cell (p := ⟨b, off + k, none⟩) g3).trans c0;replace d0 := (hb.cell (p := ⟨b', off' + k, none⟩) g3').trans d0;replace hx := hide hx;replace hy := hide hy;clear h g;have hk0 : (0 : Int) ≤ (k : Int) := by omega
    have hk1 : (k : Int) < (n : Int) := by omega
    by_cases hxy : x = y
    ·subst hxy
     have hq : (x != x) = false := by simp
     go_wp2
     go_quiet (fail)
     go_wp2
     go_roundw
     case rel => exact ⟨k + 1, by omega, by go_num, by first | exact hb | exact ⟨hb.os, hb.tape, hb.output, hb.size, hb.block⟩, take_step he.out hx.out hy.out rfl⟩
     case measure => simp [intOf]; omega
    ·have hne := hide (take_stop hx.out hy.out hxy)
     have hq : (x != y) = true := by rw [bne_iff_ne]; exact hxy
     go_wp2
     go_quiet (fail)
     go_wp2
     go_ret;exact ⟨by simp [hne.out], by first | exact hb | exact ⟨hb.os, hb.tape, hb.output, hb.size, hb.block⟩⟩
   ·have hkn : k = n := by omega
    subst hkn;clear h g
    go_wp2
    go_ret;exact ⟨by rw [take_all he.out hl.out hr.out]; simp, hb⟩
 ·have hne : Hid (l ≠ r) := fun e => hnm (by rw [← hl.out, ← hr.out, e])
  have hb0 : ((n : Int) != (m : Int)) = true := by rw [bne_iff_ne]; omega
  clear h g;go_enter Tryz.func80, Tryz.ntmps80
  go_wp2
  go_ret;exact ⟨by simp [hne.out], bR⟩
theorem indexFuncR_calls (F : FuncId) (caps : Array Value) (G : List Int → Bool) (A : Option Addr) (n c : Nat) (R : List (Hd × List Int)) (w : World) (lo hi : Nat) (h : RowsI 1048576 w lo hi A n R) (hn : n ≤ 1048576)
  (hF : ∀ (v : Value) (W : World), Sem.run Tryz.prog (callFunc F (#[v] ++ caps)) W = .ok (.enter F (#[v] ++ caps)) W)
  (hcl : ∀ (A : Option Addr) (m d : Nat) (l : List Int) (W : World), ((A, m, d), l) ∈ R → Below w.heap.size w W → SlI W lo hi A m l → m ≤ 1048576 → Calls Tryz.prog F (#[.slice A m d] ++ caps) W (Says (G l) W)) :
  Calls Tryz.prog 239 #[.slice A n c, .func (.func F) #[] caps] w fun e w' => ∃ i : Int, e = .returned (.int .i64 i) ∧ fstG G (R.map (·.2)) i ∧ Below w.heap.size w w' := by
 have hlen : Hid (R.length = n) := by have := h.1.len; rwa [List.length_map] at this
 replace hcl := hide hcl;replace h := hide h;go_enter Tryz.func239, Tryz.ntmps239
 go_wp2
 go_loopw [8] (fun i wr => ∃ k : Nat, k ≤ n ∧ i = .int .i64 k ∧ Below w.heap.size w wr ∧ Hid (((R.map (·.2)).take k).any G = false)) (fun i _ => n - (intOf i).toNat)
 case atStart => exact ⟨0, Nat.zero_le _, rfl, bR, rfl⟩
 case round =>
  obtain ⟨k, hk, rfl, hb, ha⟩ := hrel
  by_cases hlt : k < n
  ·have hxr : R[k]? = some (R[k]'(by have := hlen.out; omega)) := List.getElem?_eq_getElem _
   have hmem : (R[k]'(by have := hlen.out; omega)) ∈ R := List.getElem_mem _;obtain ⟨hs0, hm0⟩ := h.out.2 _ hmem;obtain ⟨b, off, hA, g1, g2, g3, hc0⟩ := h.out.1.at_ (show 0 < n by omega);have c0 := (hc0 k _ (by rw [List.getElem?_map, hxr]; rfl) 0 _ rfl).1;rw [Nat.mul_one, Nat.add_zero] at c0;generalize (R[k]'(by have := hlen.out; omega)) = r at *;obtain ⟨⟨Ah, m, ch⟩, s⟩ := r
   (try dsimp only at hs0 hm0 c0)
   replace c0 := (hb.cell (p := ⟨b, off + k, none⟩) g3).trans c0;subst hA;have hc := hcl.out Ah m ch s wr hmem hb (hs0.below hb (.inr zR)) hm0;have hx2 : (R.map (·.2))[k]? = some s := by rw [List.getElem?_map, hxr]; rfl
   replace hx2 := hide hx2;clear h hcl hs0 hxr hmem hc0
   by_cases hg : G s = true
   ·rw [hg] at hc
    replace hc := hide hc;have hy : Hid (fstG G (R.map (·.2)) k) := .inr ⟨k, rfl, by rw [List.length_map, hlen.out]; exact hlt, ha.out, s, hx2.out, hg⟩;clear hg;go_wp2_with fail;refine hc.out.mono ?_;rintro e w1 ⟨rfl, hb1⟩;go_wp2_with fail;go_ret;exact ⟨_, rfl, hy.out, hb.trans (hb1.mono hb.size)⟩
   ·replace hg := Bool.eq_false_iff.2 hg
    rw [hg] at hc;replace hc := hide hc;have hy := hide (any_take_succ ha.out hx2.out hg);clear hg;go_wp2_with fail;refine hc.out.mono ?_;rintro e w1 ⟨rfl, hb1⟩;go_wp2_with fail;go_roundw
    case rel => exact ⟨k + 1, by omega, by go_num, hb.trans (hb1.mono hb.size), hy⟩
    case measure => simp [intOf]; omega
  ·have hkn : k = n := by omega
   subst hkn;clear hcl h
   go_wp2
   go_ret;have hy := ha.out
   rw [List.take_of_length_le (by rw [List.length_map, hlen.out]; exact zR)] at hy;exact ⟨_, rfl, .inl ⟨rfl, hy⟩, hb⟩
theorem drewN_grow {w w' : World} {row : Option Nat} (h : w.grownBy w' row) (k : Nat) : w.grownBy (w'.drewN k) row := ⟨h.os, h.tape, h.output, h.size, h.block⟩
theorem setCell_grow {w w' : World} {row : Option Nat} (h : w.grownBy w' row) {g i : Nat} (hg : some g = row ∨ w.heap.size ≤ g) (v : Value) : w.grownBy (w'.setCell ⟨g, i, none⟩ v) row :=
 ⟨h.os, h.tape, h.output, by rw [World.size_setCell]; exact h.size, fun k hk hne => (Below.heap_setCell _ _ _ _ (by
  show k ≠ g
  rintro rfl
  rcases hg with e | e
  ·exact hne e
  ·omega)).trans (h.block k hk hne)⟩
theorem drewN_below (w : World) (k : Nat) {B : Nat} : Below B w (w.drewN k) := ⟨rfl, rfl, rfl, zR, fun _ _ => rfl⟩
theorem l11Put_calls (A : Option Addr) (n c : Nat) (es : List Ed) (f lb t : Int) (w : World) (base : Nat) (h : Own 3 ev w base 84 A n c es) (hs : RisE es) (hn : n ≤ 100000) (hbase : base ≤ w.heap.size) :
  Calls Tryz.prog 175 #[.slice A n c, .agg #[.int .i64 f, .int .i64 lb, .int .i64 t]] w fun e w' => ∃ A' n' c' es', e = .returned (.slice A' n' c') ∧ Own 3 ev w' base 84 A' n' c' es' ∧ PutO es (f, lb, t) es' ∧ Below base w w' ∧ w.grownBy w' (Value.slice A n c).ownBlock ∧ ((Value.slice A' n' c').ownBlock = (Value.slice A n c).ownBlock ∨ ∃ g, (Value.slice A' n' c').ownBlock = some g ∧ w.heap.size ≤ g) := by
 have hE := hide elem_edge;have hlen := h.len;have hb0 := hide ((Below.refl base w).alloc hbase (.cells #[.int .i64 f, .int .i64 lb, .int .i64 t] 84));have k0 := heap_alloc_new w (.cells #[.int .i64 f, .int .i64 lb, .int .i64 t] 84);have hO0 := hide (h.alloc (.cells #[.int .i64 f, .int .i64 lb, .int .i64 t] 84));have hz0 : w.heap.size < (w.alloc (.cells #[.int .i64 f, .int .i64 lb, .int .i64 t] 84)).heap.size := by simp
 obtain ⟨wA, hwA⟩ : ∃ wA, wA = w.alloc (.cells #[.int .i64 f, .int .i64 lb, .int .i64 t] 84) := ⟨_, rfl⟩;have hG0 := hide (World.grownBy_alloc w (.cells #[.int .i64 f, .int .i64 lb, .int .i64 t] 84) (Value.slice A n c).ownBlock);rw [← hwA] at hb0 k0 hO0 hz0 hG0;have hlt := hide h.lt;replace hs := hide hs;clear h;obtain ⟨be, hbe⟩ : ∃ be, be = w.heap.size := ⟨_, rfl⟩;have hne : Hid (∀ g, (Value.slice A n c).ownBlock = some g → base ≤ g ∧ g < be) := fun g e => by rw [hbe]; exact hlt.out g e
 rw [← hbe] at k0;have hkeep : Hid (∀ W : World, W.heap[be]? = wA.heap[be]? → W.cell? ⟨be, 0, none⟩ = some (.int .i64 f) ∧ W.cell? ⟨be, 1, none⟩ = some (.int .i64 lb) ∧ W.cell? ⟨be, 2, none⟩ = some (.int .i64 t)) := fun W hW =>
  ⟨cR 0 (hW.trans k0), cR 1 (hW.trans k0), cR 2 (hW.trans k0)⟩
 clear k0 hlt;go_enter Tryz.func175, Tryz.ntmps175;go_upto_region 2 with fail;rw [← hwA, ← hbe];replace hwA := hide hwA;have hbe2 : base ≤ be := by rw [hbe]; exact hbase
 have hbe3 : be < wA.heap.size := by rw [hbe]; exact hz0
 replace hbe := hide hbe
 go_loopw [5] (fun i wr => ∃ (k : Nat) (N : Nat), k ≤ n ∧ i = .int .i64 (k : Nat) ∧ wr = wA.drewN N ∧ Hid (∀ j x, k ≤ j → es[j]? = some x → edLess (f, lb, t) x = true)) (fun i _ => (intOf i).toNat)
 case atStart => exact ⟨n, 0, zR, by go_num, rfl, fun j x h1 h2 => by have := (List.getElem?_eq_some_iff.1 h2).1; omega⟩
 case round =>
  obtain ⟨k, N, hk, rfl, rfl, hhi⟩ := hrel;obtain ⟨e0, e1, e2⟩ := hkeep.out (wA.drewN N) rfl
  by_cases hgo : ∃ k' x, k = k' + 1 ∧ es[k']? = some x ∧ edLess (f, lb, t) x = true
  ·obtain ⟨k', ⟨x, y, z⟩, rfl, hx, hl⟩ := hgo
   have q0 : (0 : Int) < (k' : Int) + 1 := by omega
   have q1 : (0 : Int) ≤ (k' : Int) := by omega
   have q2 : (k' : Int) < (n : Int) := by omega
   obtain ⟨g, off, x', y', z', rfl, -, -, -, hx', d0, d1, d2, -⟩ := SlE.get ((hO0.out.keep (w' := wA.drewN N) fun _ _ => rfl).sl flat_ev) (show k' < n by omega);rw [hx] at hx';injection hx' with hx';injection hx' with r1 r2;injection r2 with r2 r3;subst r1 r2 r3;have ql := l11Less_calls be 0 g (off + k' * 3) f lb t x y z (wA.drewN N) e0 e1 e2 d0 d1 d2;rw [hl] at ql;replace ql := hide ql;have hhi2 : Hid (∀ j x, k' ≤ j → es[j]? = some x → edLess (f, lb, t) x = true) := fun j u h1 h2 => by
    by_cases e : j = k'
    ·subst e; rw [hx] at h2; injection h2 with h2; rw [← h2]; exact hl
    ·exact hhi.out j u (by omega) h2
   clear hx hl hhi;go_wp2_with (first | (go_at_call 232; (with_reducible refine ql.out.mono ?_); rintro e w' ⟨rfl, N2, rfl⟩));go_roundw
   case rel => exact ⟨k', N + N2, by omega, by go_num, rfl, hhi2.out⟩
   case measure => simp [intOf]
  ·have hsplit : k = 0 ∨ ∃ k' x y z, k = k' + 1 ∧ es[k']? = some (x, y, z) ∧ edLess (f, lb, t) (x, y, z) = false := by
    cases k with
    | zero => exact .inl rfl
    | succ k' =>
     obtain ⟨x, hx⟩ : ∃ x, es[k']? = some x := ⟨_, List.getElem?_eq_getElem (by omega)⟩;exact .inr ⟨k', x.1, x.2.1, x.2.2, rfl, hx, Bool.eq_false_iff.2 fun h => hgo ⟨k', x, rfl, hx, h⟩⟩
   clear hgo
   by_cases hold : ∃ k' , k = k' + 1 ∧ es[k']? = some (f, lb, t)
   ·obtain ⟨k', rfl, hx⟩ := hold
    have q0 : (0 : Int) < (k' : Int) + 1 := by omega
    have q1 : (0 : Int) ≤ (k' : Int) := by omega
    have q2 : (k' : Int) < (n : Int) := by omega
    obtain ⟨g, off, x', y', z', rfl, -, -, -, hx', d0, d1, d2, -⟩ := SlE.get ((hO0.out.keep (w' := wA.drewN N) fun _ _ => rfl).sl flat_ev) (show k' < n by omega);rw [hx] at hx';injection hx' with hx';injection hx' with r1 r2;injection r2 with r2 r3;subst r1 r2 r3;have ql := l11Less_calls be 0 g (off + k' * 3) f lb t f lb t (wA.drewN N) e0 e1 e2 d0 d1 d2;rw [edLess_irr] at ql;replace ql := hide ql;have hput := hide (PutO.old hs.out (List.mem_of_getElem? hx));have q3 : IntKind.i64.wrap (k' : Int) = (k' : Int) := IntWalk.i64_in _ (by omega);clear hx hhi hsplit;go_upto_region 4 with (first | (go_at_call 232; (with_reducible refine ql.out.mono ?_); rintro e w' ⟨rfl, N2, rfl⟩));obtain ⟨wq, hwq⟩ : ∃ wq, wq = wA.drewN (N + N2) := ⟨_, rfl⟩;have u0 : wq.cell? ⟨be, 0, none⟩ = some (.int .i64 f) := by rw [hwq]; exact e0
    have u1 : wq.cell? ⟨be, 1, none⟩ = some (.int .i64 lb) := by rw [hwq]; exact e1
    have u2 : wq.cell? ⟨be, 2, none⟩ = some (.int .i64 t) := by rw [hwq]; exact e2
    have v0 : wq.cell? ⟨g, off + k' * 3, none⟩ = some (.int .i64 f) := by rw [hwq]; exact d0
    have v1 : wq.cell? ⟨g, off + k' * 3 + 1, none⟩ = some (.int .i64 lb) := by rw [hwq]; exact d1
    have v2 : wq.cell? ⟨g, off + k' * 3 + 2, none⟩ = some (.int .i64 t) := by rw [hwq]; exact d2
    have hOq : Hid (Own 3 ev wq base 84 (some ⟨g, off, none⟩) n c es) := by rw [hwq]; exact hO0.out.keep fun _ _ => rfl
    have hbq : Hid (Below base w wq) := by rw [hwq]; exact hb0.out.trans (drewN_below _ _)
    have hGq : Hid (w.grownBy wq (Value.slice (some ⟨g, off, none⟩) n c).ownBlock) := by rw [hwq]; exact drewN_grow hG0.out _
    rw [← hwq];replace hwq := hide hwq;clear d0 d1 d2 e0 e1 e2;go_quiet (fail);go_wp2_with fail;go_ret;exact ⟨_, _, _, es, rfl, hOq.out.keep fun _ _ => rfl, hput.out, hbq.out.trans (drewN_below _ _), drewN_grow hGq.out _, .inl rfl⟩
   ·have hput : Hid (PutO es (f, lb, t) (es.take k ++ (f, lb, t) :: es.drop k)) := PutO.new hs.out (by
     rcases hsplit with h | ⟨k', x, y, z, rfl, hx, hl⟩
     ·exact .inl h
     ·refine .inr ⟨_, hx, ?_⟩
      rcases edLess_total (a := (f, lb, t)) (b := (x, y, z)) (fun e => hold ⟨k', rfl, by rw [hx, e]⟩) with h | h
      ·rw [hl] at h; cases h
      ·exact h) hhi.out
    rcases hsplit with hk0 | ⟨k', x, y, z, hk1, hx, hl⟩
    focus
     have z1 : ¬ (0 : Int) < (k : Int) := by omega
     have z2 : decide ((0 : Int) < (k : Int)) = false := decide_eq_false z1;have z3 : decide (0 < k) = false := decide_eq_false (by omega);have z4 : ¬ 0 < k := by omega
     clear hold hhi hk0;go_upto_region 4 with fail;go_quiet (fail);go_upto_region 6 with fail;obtain ⟨wv, hwv⟩ : ∃ wv, wv = (wA.drewN N).drewN nq := ⟨_, rfl⟩;have hOv : Hid (Own 3 ev wv base 84 A n c es) := by rw [hwv]; exact hO0.out.keep fun _ _ => rfl
     have hbv : Hid (Below base w wv) := by rw [hwv]; exact (hb0.out.trans (drewN_below _ _)).trans (drewN_below _ _)
     have hev : Hid (wv.heap[be]? = wA.heap[be]?) := by rw [hwv]; rfl
     have hGv : Hid (w.grownBy wv (Value.slice A n c).ownBlock) := by rw [hwv]; exact drewN_grow (drewN_grow hG0.out _) _
     have hzv : be < wv.heap.size := by rw [hwv]; exact hbe3
     rw [← hwv];replace hwv := hide hwv;clear z1 z2 z3 z4 e0 e1 e2
    rotate_left
    focus
     have hne3 : ¬ (x = f ∧ y = lb ∧ z = t) := fun ⟨a, b, c⟩ => hold ⟨k', hk1, by rw [hx, a, b, c]⟩
     have q0 : (0 : Int) < (k' : Int) + 1 := by omega
     have q1 : (0 : Int) ≤ (k' : Int) := by omega
     have q2 : (k' : Int) < (n : Int) := by omega
     have q3 : IntKind.i64.wrap (k' : Int) = (k' : Int) := IntWalk.i64_in _ (by omega);clear hold hhi;subst hk1;obtain ⟨g, off, x', y', z', eA, -, -, -, hx', d0, d1, d2, -⟩ := SlE.get ((hO0.out.keep (w' := wA.drewN N) fun _ _ => rfl).sl flat_ev) (show k' < n by omega);rw [hx] at hx';injection hx' with hx';injection hx' with r1 r2;injection r2 with r2 r3;subst r1 r2 r3 eA;have ql := l11Less_calls be 0 g (off + k' * 3) f lb t x y z (wA.drewN N) e0 e1 e2 d0 d1 d2;rw [hl] at ql;replace ql := hide ql;clear hx hl;go_upto_region 4 with (first | (go_at_call 232; (with_reducible refine ql.out.mono ?_); rintro e w' ⟨rfl, N2, rfl⟩));obtain ⟨wq, hwq⟩ : ∃ wq, wq = wA.drewN (N + N2) := ⟨_, rfl⟩;have u0 : wq.cell? ⟨be, 0, none⟩ = some (.int .i64 f) := by rw [hwq]; exact e0
     have u1 : wq.cell? ⟨be, 1, none⟩ = some (.int .i64 lb) := by rw [hwq]; exact e1
     have u2 : wq.cell? ⟨be, 2, none⟩ = some (.int .i64 t) := by rw [hwq]; exact e2
     have v0 : wq.cell? ⟨g, off + k' * 3, none⟩ = some (.int .i64 x) := by rw [hwq]; exact d0
     have v1 : wq.cell? ⟨g, off + k' * 3 + 1, none⟩ = some (.int .i64 y) := by rw [hwq]; exact d1
     have v2 : wq.cell? ⟨g, off + k' * 3 + 2, none⟩ = some (.int .i64 z) := by rw [hwq]; exact d2
     have hOq : Hid (Own 3 ev wq base 84 (some ⟨g, off, none⟩) n c es) := by rw [hwq]; exact hO0.out.keep fun _ _ => rfl
     have hbq : Hid (Below base w wq) := by rw [hwq]; exact hb0.out.trans (drewN_below _ _)
     have heq : Hid (wq.heap[be]? = wA.heap[be]?) := by rw [hwq]; rfl
     have hGq : Hid (w.grownBy wq (Value.slice (some ⟨g, off, none⟩) n c).ownBlock) := by rw [hwq]; exact drewN_grow hG0.out _
     have hzq : be < wq.heap.size := by rw [hwq]; exact hbe3
     rw [← hwq];clear d0 d1 d2 e0 e1 e2 ql;replace hwq := hide hwq;have hcase : (x == f) = false ∨ (f = x ∧ (y == lb) = false) ∨ (f = x ∧ lb = y ∧ (z == t) = false) := by
      by_cases a : x = f
      ·by_cases b : y = lb
       ·exact .inr (.inr ⟨a.symm, b.symm, beq_eq_false_iff_ne.2 fun c => hne3 ⟨a, b, c⟩⟩)
       ·exact .inr (.inl ⟨a.symm, beq_eq_false_iff_ne.2 b⟩)
      ·exact .inl (beq_eq_false_iff_ne.2 a)
     clear hne3
     rcases hcase with e3 | ⟨e4, e3⟩ | ⟨e4, e5, e3⟩
     rotate_left
     subst e4
     rotate_left
     subst e4 e5
     rotate_left
     all_goals
      go_quiet (fail);go_upto_region 6 with fail;obtain ⟨wv, hwv⟩ : ∃ wv, wv = wq.drewN nq := ⟨_, rfl⟩;have hOv : Hid (Own 3 ev wv base 84 (some ⟨g, off, none⟩) n c es) := by rw [hwv]; exact hOq.out.keep fun _ _ => rfl
      have hbv : Hid (Below base w wv) := by rw [hwv]; exact hbq.out.trans (drewN_below _ _)
      have hev : Hid (wv.heap[be]? = wA.heap[be]?) := by rw [hwv]; exact heq.out
      have hGv : Hid (w.grownBy wv (Value.slice (some ⟨g, off, none⟩) n c).ownBlock) := by rw [hwv]; exact drewN_grow hGq.out _
      have hzv : be < wv.heap.size := by rw [hwv]; exact hzq
      rw [← hwv];replace hwv := hide hwv;clear u0 u1 u2 v0 v1 v2 e3 hzq hbq heq hOq hGq q0 q1 q2 q3;obtain ⟨k, hk9⟩ : ∃ k, k = k' + 1 := ⟨_, rfl⟩;have hk8 : (k' : Int) + 1 = (k : Int) := by omega
      rw [hk8];rw [← hk9] at hk hput;clear hk8 hk9
    all_goals
     have hza : base ≤ (wv.alloc (.cells #[.int .i64 0, .int .i64 0, .int .i64 0] 84)).heap.size := by rw [World.size_alloc]; omega
     have hba := hide (hbv.out.alloc (show base ≤ wv.heap.size by omega) (.cells #[.int .i64 0, .int .i64 0, .int .i64 0] 84));go_upto_region 7 with (first | (at_builtin; (with_reducible refine wpList_app rfl (.tmp 32) (.tmp 34) rfl hE.out flat_ev rfl (hOv.out.alloc _) rfl (Sl.lit1' wv 84 ((0, 0, 0) : Ed) _ rfl 3 _ ?d0) ?d1 hza ?_); rotate_right; intro A6 c6 w6 hown6 hgr6 hb6 hat6))
     case d0 => rfl
     case d1 => omega
     obtain ⟨g6, rfl, hg6⟩ := hown6.neE (by omega);have hgb : g6 ≠ be := by
      rcases hat6 with e | e
      ·have := hne.out g6 (e.symm.trans rfl)
       omega
      ·have e2 : some g6 = some (wv.alloc (.cells #[.int .i64 0, .int .i64 0, .int .i64 0] 84)).heap.size := e
       injection e2 with e2;rw [World.size_alloc] at e2;omega
     have hg6r : (Value.slice (some ⟨g6, 0, none⟩) (n + 1) c6).ownBlock = _ ∨ w.heap.size ≤ g6 := hat6.imp id fun e => by
      have e2 : some g6 = some (wv.alloc (.cells #[.int .i64 0, .int .i64 0, .int .i64 0] 84)).heap.size := e;injection e2 with e2;rw [World.size_alloc] at e2;have := hGv.out.size;omega
     have hG6 := hide ((hGv.out.trans (World.grownBy_alloc wv _ _)).trans hgr6);replace hg6r := hide hg6r;have hb7 := hide (hba.out.trans hb6);have he6 : Hid (w6.heap[be]? = wA.heap[be]?) := by
      show _ = _
      rw [hgr6.block be (by rw [World.size_alloc]; omega) (fun e => by have := hne.out be e.symm; omega)];rw [Below.heap_alloc _ _ _ hzv];exact hev.out
     have hS0 : Hid (Own 3 ev w6 base 84 (some ⟨g6, 0, none⟩) (n + 1) c6 (es.take n ++ ((0, 0, 0) : Ed) :: es.drop n)) := by
      show Own _ _ _ _ _ _ _ _ _
      rw [List.take_of_length_le (by omega), List.drop_eq_nil_of_le (by omega)];exact hown6
     clear hown6 hgr6 hb6 hat6 hOv hbv hba hza hev hGv;go_wp2_with fail;obtain ⟨wP, hwP⟩ : ∃ wP : World, wP = w6 := ⟨_, rfl⟩
     go_loopw [6] (fun i wr => ∃ (q : Nat) (y : Ed), k ≤ q ∧ q ≤ n ∧ i = .int .i64 (q : Nat) ∧ Hid (Own 3 ev wr base 84 (some ⟨g6, 0, none⟩) (n + 1) c6 (es.take q ++ y :: es.drop q)) ∧ Hid (Below base w wr) ∧ Hid (wr.heap[be]? = wA.heap[be]?) ∧ Hid (w.grownBy wr _)) (fun i _ => (intOf i).toNat)
     case atStart => exact ⟨n, _, hk, zR, by go_num, hS0.out, hb7.out, he6.out, hG6.out⟩
     case round =>
      clear hS0 hb7 he6 hG6;obtain ⟨q, y, hq1, hq2, rfl, hS, hb, hev, hG⟩ := hrel
      by_cases hqt : k < q
      ·obtain ⟨q', rfl⟩ : ∃ q', q = q' + 1 := ⟨q - 1, by omega⟩
       have p0 : (k : Int) < (q' : Int) + 1 := by omega
       have p1 : (0 : Int) ≤ (q' : Int) := by omega
       have p2 : (q' : Int) < (n : Int) + 1 := by omega
       have p3 : (q' : Int) + 1 < (n : Int) + 1 := by omega
       have p4 : (0 : Int) ≤ (q' : Int) + 1 := by omega
       obtain ⟨⟨x1, x2, x3⟩, hx1⟩ : ∃ x, es[q']? = some x := ⟨_, List.getElem?_eq_getElem (by omega)⟩;obtain ⟨ga, oa, xa, ya, za, ea, -, -, -, hxa, ca0, ca1, ca2, -⟩ := SlE.get (hS.out.sl flat_ev) (show q' < n + 1 by omega)
       cases ea
       rw [Nat.zero_add] at ca0 ca1 ca2;rw [shiftG_get hx1] at hxa;injection hxa with hxa;injection hxa with r1 r2;injection r2 with r2 r3;subst r1 r2 r3;obtain ⟨gb, ob, xb, yb, zb, eb, -, -, -, -, cb0, cb1, cb2, fb0, fb1, fb2⟩ := SlE.get (hS.out.sl flat_ev) (show q' + 1 < n + 1 by omega)
       cases eb
       rw [Nat.zero_add] at cb0 cb1 cb2 fb0 fb1 fb2;have hset := hS.out.setE (q' + 1) x1 x2 x3;rw [shiftG_set hx1] at hset;replace hset := hide hset;have hbs := hide (((hb.out.setCell (p := ⟨g6, (q' + 1) * 3, none⟩) hg6 (.int .i64 x1)).setCell (p := ⟨g6, (q' + 1) * 3 + 1, none⟩) hg6 (.int .i64 x2)).setCell (p := ⟨g6, (q' + 1) * 3 + 2, none⟩) hg6 (.int .i64 x3));have hes : Hid ((((wr.setCell ⟨g6, (q' + 1) * 3, none⟩ (.int .i64 x1)).setCell ⟨g6, (q' + 1) * 3 + 1, none⟩ (.int .i64 x2)).setCell ⟨g6, (q' + 1) * 3 + 2, none⟩ (.int .i64 x3)).heap[be]? = wA.heap[be]?) := by
        show _ = _
        rw [Below.heap_setCell _ _ _ _ (by show be ≠ g6; omega), Below.heap_setCell _ _ _ _ (by show be ≠ g6; omega), Below.heap_setCell _ _ _ _ (by show be ≠ g6; omega)];exact hev.out
       have hGs := hide (setCell_grow (setCell_grow (setCell_grow hG.out (i := (q' + 1) * 3) hg6r.out (.int .i64 x1)) (i := (q' + 1) * 3 + 1) hg6r.out (.int .i64 x2)) (i := (q' + 1) * 3 + 2) hg6r.out (.int .i64 x3));clear hx1;go_wp2_with fail;go_roundw
       case rel => exact ⟨q', (x1, x2, x3), by omega, by omega, by go_num, hset.out, hbs.out, hes.out, hGs.out⟩
       case measure => simp [intOf]
      ·obtain rfl : q = k := by omega
       have p0 : ¬ (q : Int) < (q : Int) := by omega
       have p1 : (0 : Int) ≤ (q : Int) := by omega
       have p2 : (q : Int) < (n : Int) + 1 := by omega
       obtain ⟨e0, e1, e2⟩ := hkeep.out wr hev.out;obtain ⟨gb, ob, xb, yb, zb, eb, -, -, -, -, cb0, cb1, cb2, fb0, fb1, fb2⟩ := SlE.get (hS.out.sl flat_ev) (show q < n + 1 by omega)
       cases eb
       rw [Nat.zero_add] at cb0 cb1 cb2 fb0 fb1 fb2;have hset := hS.out.setE q f lb t;rw [shiftG_end (by omega)] at hset;replace hset := hide hset;have hbs := hide (((hb.out.setCell (p := ⟨g6, q * 3, none⟩) hg6 (.int .i64 f)).setCell (p := ⟨g6, q * 3 + 1, none⟩) hg6 (.int .i64 lb)).setCell (p := ⟨g6, q * 3 + 2, none⟩) hg6 (.int .i64 t));have hGs := hide (setCell_grow (setCell_grow (setCell_grow hG.out (i := q * 3) hg6r.out (.int .i64 f)) (i := q * 3 + 1) hg6r.out (.int .i64 lb)) (i := q * 3 + 2) hg6r.out (.int .i64 t));go_wp2_with fail;go_ret;exact ⟨_, _, _, rfl, _, hset.out, hput.out, hbs.out, hGs.out, hg6r.out.imp id fun h => ⟨_, rfl, h⟩⟩
end Go.Proofs.YtnhomkmfbngmgaaGreatDoor
