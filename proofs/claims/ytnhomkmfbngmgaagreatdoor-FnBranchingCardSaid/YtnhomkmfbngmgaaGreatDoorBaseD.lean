/-
  Several texts in one:
  slices.Sort and slices.Compact at []int64, on a slice of the
  Sorting and compacting lists of at most one number; finding a
  The states to which edges with a label lead from some states,
  What internal edges reach from some states: lists that grow
  A list that grows, begun before some other blocks were made.
  The states that internal edges reach from some states, by the
  A world that meets the rows' condition on the library's
  Pairs of numbers as keys of a map. Conditions: numbers that
  A set of pairs of numbers as a map to bools, and the loop
  compareLabels, slices.SortFunc and slices.Compact at
  Literals as lists of the call's own, cells set in them, and
  The list of labels of a list of texts, by the reference.
  Distances in a graph: by a queue and by rounds, both the
  Distances along the edges of a system, plain. Conditions:
  Lists of bool and of numbers in memory. Conditions: at most
-/
import Derived.Test.YtnhomkmfbngmgaaGreatDoorBaseA
import Derived.Test.YtnhomkmfbngmgaaGreatDoorBaseB
import Derived.Test.YtnhomkmfbngmgaaGreatDoorBaseC
import Derived.Deep.RegionHeld
import Derived.Deep.RegionLaw
import Derived.Deep.LoopGhost
import Derived.Deep.RegionHeld3
import Derived.LaidMore
import Derived.LaidLaws
import Derived.HandedShaped
import Derived.Stop.LaidErr
import Derived.Lib.LaidTab
import Derived.Maps.OwnSet
import Derived.Maps.Views
import Derived.WideKeyPair
import Derived.DeepKeys4
import Derived.WalkArith
import Derived.Maps.RangeWalk
import Derived.Below
import Derived.Deep.DeepCutAuto
import Derived.Outline
import Derived.WalkSpells
import Derived.Laws.CopyOwn
import Derived.Laws.Bits64b
import Derived.StillTailTactics
import Derived.Laws.EntriesVeiled
set_option linter.unusedSimpArgs false
set_option linter.unusedVariables false
namespace Go.Proofs.YtnhomkmfbngmgaaGreatDoor
open Go.RowKit Go.Sort Go.Lib
set_option linter.unusedVariables false
set_option linter.unusedSimpArgs false

def sortI (l : List Int) : List Int := l.mergeSort fun x y => decide (x ≤ y)
theorem sortI_nil : sortI [] = [] := by simp [sortI]
theorem sortI_len (l : List Int) : (sortI l).length = l.length := List.length_mergeSort _
theorem sortI_mem {l : List Int} {x : Int} : x ∈ sortI l ↔ x ∈ l := List.mem_mergeSort
theorem iv_map (l : List Int) : l.flatMap iv = l.map (Value.int .i64) := by
 induction l with
 | nil => rfl
 | cons x l ih => rw [List.flatMap_cons, ih]; rfl

theorem compact_mem {l : List Int} {x : Int} : x ∈ Lib.compact l ↔ x ∈ l := by
 unfold Lib.compact Lib.compactUpTo
 rw [List.mem_map]
 constructor
 ·rintro ⟨k, hk, rfl⟩
  have hk' := List.mem_range.1 (List.mem_filter.1 hk).1
  rw [getElem!_pos _ k (by simpa using hk')]
  simp
 ·intro hx
  obtain ⟨k, hk, rfl⟩ := List.mem_iff_getElem.1 hx
  have key : ∀ k, (hk : k < l.length) → ∃ a, a ∈ (List.range l.length).filter (Lib.keeps l.toArray) ∧ l.toArray[a]! = l[k] := by
   intro k
   induction k with
   | zero => exact fun hk => ⟨0, List.mem_filter.2 ⟨List.mem_range.2 hk, by simp [Lib.keeps]⟩, by rw [getElem!_pos _ 0 (by simpa using hk)]; simp⟩
   | succ k ih =>
    intro hk
    by_cases h : l.toArray[k + 1]! = l.toArray[k]!
    ·obtain ⟨a, ha, e⟩ := ih (by omega)
     refine ⟨a, ha, ?_⟩
     rw [e]
     rw [getElem!_pos _ (k + 1) (by simpa using hk), getElem!_pos _ k (by simp; omega)] at h
     simpa using h.symm
    ·exact ⟨k + 1, List.mem_filter.2 ⟨List.mem_range.2 hk, Lib.keeps_pos (by simpa using h)⟩, by rw [getElem!_pos _ (k + 1) (by simpa using hk)]; simp⟩
  exact key k hk
theorem compact_len (l : List Int) : (Lib.compact l).length ≤ l.length := by
 unfold Lib.compact Lib.compactUpTo
 rw [List.length_map]
 exact Nat.le_trans (List.length_filter_le _ _) (by simp)

section
variable {w : World} {base g n c q : Nat} {e : TypeId} {l d : List Int} {os : Array Obj}

theorem put_block (w : World) (g q : Nat) (d : List Int) (os : Array Obj) (hg : g < w.heap.size) :
  (grow (putRow (Value.int .i64) (Sort.ahead w q) g 0 d.toArray) os).heap[g]? = (w.heap[g]?).map (onCells (Go.Sort.putCells (Value.int .i64) 0 d.toArray)) := by
 rw [heap_grow_old _ _ (by simpa [putRow, mapBlock, Sort.ahead] using hg)]
 simp [putRow, mapBlock, Sort.ahead, Array.getElem?_modify]

theorem put_grown (w : World) (g q : Nat) (d : List Int) (os : Array Obj) : w.grownBy (grow (putRow (Value.int .i64) (Sort.ahead w q) g 0 d.toArray) os) (some g) := by
 refine ⟨rfl, rfl, rfl, by simp [putRow, mapBlock, Sort.ahead], fun k hk hne => ?_⟩
 rw [heap_grow_old _ _ (by simpa [putRow, mapBlock, Sort.ahead] using hk)]
 have hne' : g ≠ k := fun h => hne (by rw [h])
 simp [putRow, mapBlock, Sort.ahead, Array.getElem?_modify, hne']

theorem Own.put (h : Own 1 iv w base e (some ⟨g, 0, none⟩) n c l) (hd : d.length = n) {m : Nat} (hm : m ≤ n) :
  Own 1 iv (grow (putRow (Value.int .i64) (Sort.ahead w q) g 0 d.toArray) os) base e (some ⟨g, 0, none⟩) m c (d.take m) := by
 rcases h.2.2 with ⟨hv, -⟩ | ⟨g', cap, cur, hv, hb, hg, hnc, hcm, hcs, htake⟩
 ·cases hv
 ·cases hv
  have hlt : g < w.heap.size := (Array.getElem?_eq_some_iff.1 hg).1
  have hl : (d.take m).length = m := by rw [List.length_take]; omega
  refine ⟨hl, by rw [flat_length flat_iv, hl], .inr ⟨g, c, Go.Sort.putCells (Value.int .i64) 0 d.toArray cur, rfl, hb, ?_, by omega, hcm, by simp [Go.Sort.putCells, hcs], ?_⟩⟩
  ·rw [put_block _ _ _ _ _ hlt, hg]
   rfl
  ·rw [iv_map]
   apply List.ext_getElem?
   intro k
   by_cases hk : k < m
   ·have hkc : k < cur.size := by omega
    have hkd : k < d.length := by omega
    rw [List.getElem?_take, if_pos (by omega), List.getElem?_map, List.getElem?_take, if_pos hk, Array.getElem?_toList, List.getElem?_eq_getElem hkd]
    simp only [Go.Sort.putCells, Array.getElem?_mapIdx, Array.getElem?_eq_getElem hkc, Option.map_some]
    rw [if_pos ⟨Nat.zero_le _, by simp; omega⟩, Nat.sub_zero, getElem!_pos _ k (by simpa using hkd)]
    simp
   ·rw [List.getElem?_eq_none (by simp; omega), List.getElem?_eq_none (by simp; omega)]

theorem Own.holds (h : Own 1 iv w base e (some ⟨g, 0, none⟩) n c l) : Holds (Value.int .i64) w g 0 l.toArray := by
 intro j hj
 have hj' : j < l.length := by simpa using hj
 have hs := h.sl flat_iv
 have hn := h.len
 obtain ⟨b', off', e', -, -, -, hc⟩ := hs.at_ (by omega)
 cases e'
 have := hc j l[j] (List.getElem?_eq_getElem hj') 0 (.int .i64 l[j]) rfl
 rw [getElem!_pos _ j hj]
 simpa using this
end

section
variable {w : World} {base n c : Nat} {A : Option Addr} {l : List Int}

theorem sortI_calls (h : Own 1 iv w base 2 A n c l) (hn : n ≤ 1000000000) :
  Calls Tryz.prog 160 #[.slice A n c] w fun e w' => e = .returned (.tuple #[]) ∧ Own 1 iv w' base 2 A n c (sortI l) ∧ w.grownBy w' (Value.slice A n c).ownBlock := by
 rcases h.2.2 with ⟨hv, hn0⟩ | ⟨g, cap, cur, hv, hb, hg, hnc, hcm, hcs, htake⟩
 ·cases hv
  have hl := List.eq_nil_of_length_eq_zero h.len
  subst hl
  refine (Tryz.slices_Sort_int_none none 0 w).mono ?_
  rintro e w' ⟨rfl, rfl⟩
  rw [sortI_nil]
  exact ⟨rfl, h, ⟨rfl, rfl, rfl, Nat.le_refl _, fun _ _ _ => rfl⟩⟩
 ·cases hv
  have hlt : g < w.heap.size := (Array.getElem?_eq_some_iff.1 hg).1
  have hq := Tryz.slices_Sort_int g 0 c l w h.holds hlt (by have := h.len; omega)
  rw [h.len] at hq
  refine hq.mono ?_
  rintro e w' ⟨rfl, q, os, rfl⟩
  refine ⟨rfl, ?_, put_grown _ _ _ _ _⟩
  have := h.put (d := sortI l) (q := q) (os := os) ((sortI_len l).trans h.len) (Nat.le_refl n)
  rwa [List.take_of_length_le (by rw [sortI_len, h.len]; exact Nat.le_refl _)] at this

theorem compactI_calls (h : Own 1 iv w base 2 A n c l) (hn : n ≤ 1000000000) :
  Calls Tryz.prog 161 #[.slice A n c] w fun e w' => e = .returned (.slice A (Lib.compact l).length c) ∧ Own 1 iv w' base 2 A (Lib.compact l).length c (Lib.compact l) ∧ w.grownBy w' (Value.slice A n c).ownBlock := by
 rcases h.2.2 with ⟨hv, hn0⟩ | ⟨g, cap, cur, hv, hb, hg, hnc, hcm, hcs, htake⟩
 ·cases hv
  have hl := List.eq_nil_of_length_eq_zero h.len
  subst hl
  refine (Tryz.slices_Compact_int_empty none 0 w).mono ?_
  rintro e w' ⟨rfl, rfl⟩
  exact ⟨rfl, h, ⟨rfl, rfl, rfl, Nat.le_refl _, fun _ _ _ => rfl⟩⟩
 ·cases hv
  have hlt : g < w.heap.size := (Array.getElem?_eq_some_iff.1 hg).1
  have hlen := compact_len l
  have hq := Tryz.slices_Compact_int g 0 c l w h.holds (by have := h.len; omega) (by have := h.len; omega)
  rw [h.len] at hq hlen
  refine hq.mono ?_
  rintro e w' ⟨rfl, q, rfl⟩
  have hd : (Lib.compact l ++ List.replicate (n - (Lib.compact l).length) 0).length = n := by simp; omega
  have h1 := h.put (d := Lib.compact l ++ List.replicate (n - (Lib.compact l).length) 0) (q := q) (os := #[]) hd hlen
  have h2 := put_grown w g q (Lib.compact l ++ List.replicate (n - (Lib.compact l).length) 0) #[]
  rw [grow_empty] at h1 h2
  rw [List.take_left'  rfl] at h1
  exact ⟨rfl, h1, h2⟩
end

end Go.Proofs.YtnhomkmfbngmgaaGreatDoor

namespace Go.Proofs.YtnhomkmfbngmgaaGreatDoor
open Go.ChangeShapes Go.WideShapes Go.ChangeAt Go.RowKit Go.Sort
set_option linter.unusedVariables false

set_option maxRecDepth 100000 in
theorem indexI_calls (v : Int) (A : Option Addr) (n c : Nat) (l : List Int) (w : World) (lo hi : Nat) (h : SlI w lo hi A n l) (hn : n ≤ 1048576) :
  Calls Tryz.prog 130 #[.slice A n c, .int .i64 v] w fun e w' => ∃ i : Int, e = .returned (.int .i64 i) ∧ decide (0 ≤ i) = l.any (fun x => decide (x = v)) ∧ w = w' := by
 have hlen := hide h.len
 go_enter Tryz.func130, Tryz.ntmps130
 go_wp2
 go_loop [8] (fun i => ∃ k : Nat, k ≤ n ∧ i = .int .i64 k ∧ Hid ((l.take k).any (fun x => decide (x = v)) = false)) (fun i => n - (intOf i).toNat)
 case atStart => exact ⟨0, Nat.zero_le _, rfl, rfl⟩
 case round =>
  obtain ⟨k, hk, rfl, ha⟩ := hrel
  by_cases hlt : k < n
  ·obtain ⟨b, off, x, rfl, g1, g2, g3, hx, c0, -⟩ := SlI.get h hlt
   clear h
   by_cases hq : x = v
   ·have hy := hide (any_hit (G := fun x => decide (x = v)) hx (decide_eq_true hq))
    subst hq
    clear hx
    go_wp2
    go_ret
    exact ⟨_, rfl, by rw [hy.out]; simp, rfl⟩
   ·have hy := hide (any_take_succ ha.out hx (decide_eq_false hq))
    have hne : (v == x) = false := by rw [beq_eq_false_iff_ne]; exact fun e => hq e.symm
    clear hx hq
    go_wp2
    go_round
    case rel => exact ⟨k + 1, by omega, by go_num, hy⟩
    case measure => simp [intOf]; omega
  ·have hkn : k = n := by omega
   subst hkn
   clear h
   go_wp2
   go_ret
   have hy := ha.out
   rw [List.take_of_length_le (by rw [hlen.out]; exact Nat.le_refl _)] at hy
   exact ⟨_, rfl, by rw [hy]; decide, rfl⟩
theorem containsI_calls (v : Int) (A : Option Addr) (n c : Nat) (l : List Int) (w : World) (lo hi : Nat) (h : SlI w lo hi A n l) (hn : n ≤ 1048576) :
  Calls Tryz.prog 193 #[.slice A n c, .int .i64 v] w fun e w' => e = .returned (.bool (l.any (fun x => decide (x = v)))) ∧ w = w' := by
 have q := hide (indexI_calls v A n c l w lo hi h hn)
 clear h
 go_enter Tryz.func193, Tryz.ntmps193
 go_wp2_with fail
 refine q.out.mono ?_
 rintro e w1 ⟨i, rfl, hi, rfl⟩
 replace hi := hide hi
 go_wp2_with fail
 go_ret
 exact ⟨ret_b hi.out.symm, rfl⟩

end Go.Proofs.YtnhomkmfbngmgaaGreatDoor

namespace Go.Proofs.YtnhomkmfbngmgaaGreatDoor
open Go.ChangeShapes Go.WideShapes Go.ChangeAt Go.RowKit Go.Sort
set_option linter.unusedVariables false
set_option linter.unusedSimpArgs false

theorem str_list_ne2 {a b : ByteArray} (h : ¬ a = b) : (b.toList == a.toList) = false ∧ ¬ b.toList = a.toList := by
 have h1 := str_neq (a := b) (b := a) (fun e => h e.symm)
 exact ⟨h1, fun e => by rw [e] at h1; simp at h1⟩

def hitS (ls : List ByteArray) (lab : ByteArray) (S : List Int) (e : Ed) : Bool := S.any (fun x => decide (x = e.1)) && (match ls[e.2.1.toNat]? with | some r => decide (r = lab) | none => false)
def folS (es : List Ed) (ls : List ByteArray) (lab : ByteArray) (S : List Int) : List Int := (es.filter (hitS ls lab S)).map (·.2.2)
def folV (es : List Ed) (ls : List ByteArray) (lab : ByteArray) (S : List Int) : List Int := Lib.compact (sortI (folS es ls lab S))
theorem hitS_at {ls : List ByteArray} {lab r : ByteArray} {S : List Int} {f lb tg : Int} (hr : ls[lb.toNat]? = some r) : hitS ls lab S (f, lb, tg) = (S.any (fun x => decide (x = f)) && decide (r = lab)) := by
 unfold hitS
 simp only [hr]
theorem folS_succ {es : List Ed} {k : Nat} {e : Ed} {ls : List ByteArray} {lab : ByteArray} {S : List Int} (hx : es[k]? = some e) : folS (es.take (k + 1)) ls lab S = folS (es.take k) ls lab S ++ (if hitS ls lab S e then [e.2.2] else []) := by
 unfold folS
 rw [List.take_add_one, hx, List.filter_append, List.map_append]
 congr 1
 by_cases h : hitS ls lab S e = true <;> simp [h]
theorem folS_len (es : List Ed) (ls : List ByteArray) (lab : ByteArray) (S : List Int) : (folS es ls lab S).length ≤ es.length := by
 unfold folS
 rw [List.length_map]
 exact List.length_filter_le _ _
theorem folV_len (es : List Ed) (ls : List ByteArray) (lab : ByteArray) (S : List Int) : (folV es ls lab S).length ≤ es.length :=
 Nat.le_trans (compact_len _) (by rw [sortI_len]; exact folS_len es ls lab S)
theorem folV_mem {es : List Ed} {ls : List ByteArray} {lab : ByteArray} {S : List Int} {v : Int} : v ∈ folV es ls lab S ↔ ∃ e ∈ es, e.1 ∈ S ∧ ls[e.2.1.toNat]? = some lab ∧ e.2.2 = v := by
 unfold folV
 rw [compact_mem, sortI_mem]
 unfold folS
 rw [List.mem_map]
 constructor
 ·rintro ⟨e, he, rfl⟩
  obtain ⟨h1, h2⟩ := List.mem_filter.1 he
  unfold hitS at h2
  rw [Bool.and_eq_true, List.any_eq_true] at h2
  obtain ⟨⟨x, hx, hxe⟩, h3⟩ := h2
  refine ⟨e, h1, by rw [← of_decide_eq_true hxe]; exact hx, ?_, rfl⟩
  revert h3
  cases ls[e.2.1.toNat]? with
  | none => intro h; cases h
  | some r => intro h; rw [of_decide_eq_true h]
 ·rintro ⟨e, h1, h2, h3, rfl⟩
  refine ⟨e, List.mem_filter.2 ⟨h1, ?_⟩, rfl⟩
  unfold hitS
  rw [Bool.and_eq_true, List.any_eq_true, h3]
  exact ⟨⟨e.1, h2, decide_eq_true rfl⟩, decide_eq_true rfl⟩

theorem Own.grown_below {α : Type} {size : Nat} {f : α → List Value} {w w' : World} {base n c B : Nat} {e : TypeId} {A : Option Addr} {l : List α} (h : Own size f w base e A n c l) (hg : w.grownBy w' (Value.slice A n c).ownBlock) (hB : B ≤ base) (hb : base ≤ w.heap.size) : Below B w w' :=
 (Below.refl _ _).grown hg (by omega) fun k hk => Nat.le_trans hB (h.lt k hk).1

set_option maxRecDepth 100000 in
set_option maxHeartbeats 3200000 in
theorem followS_calls (s0 s1 : Int) (A2 : Option Addr) (n2 k2 : Nat) (A3 : Option Addr) (n3 k3 : Nat) (A1 : Option Addr) (n1 c1 : Nat) (S : List Int) (lab : ByteArray) (ls : List ByteArray) (es : List Ed) (w : World) (lo hi lo1 hi1 : Nat)
  (t2 : SlS w lo hi A2 n2 ls) (t3 : SlE w lo hi A3 n3 es) (t1 : SlI w lo1 hi1 A1 n1 S) (hS : n1 ≤ 1048576) (hes : n3 ≤ 1048576) (hval : ltsV (s0, s1, ls, es) = true) :
  Calls Tryz.prog 181 #[.agg #[.int .i64 s0, .int .i64 s1, .slice A2 n2 k2, .slice A3 n3 k3], .slice A1 n1 c1, .string lab] w fun e w' => ∃ A n c, e = .returned (.slice A n c) ∧ Own 1 iv w' w.heap.size 2 A n c (folV es ls lab S) ∧ Below w.heap.size w w' := by
 have l2 := hide t2.len
 have l3 := hide t3.len
 have hlts := hide hval
 have hW0 := hide (show Below w.heap.size w (w.alloc (.cells #[.int .i64 s0, .int .i64 s1, .slice A2 n2 k2, .slice A3 n3 k3] 27)) from (Below.refl _ _).alloc (Nat.le_refl _) _)
 have kE := heap_alloc_new w (.cells #[.int .i64 s0, .int .i64 s1, .slice A2 n2 k2, .slice A3 n3 k3] 27)
 have hbt : w.heap.size < (w.alloc (.cells #[.int .i64 s0, .int .i64 s1, .slice A2 n2 k2, .slice A3 n3 k3] 27)).heap.size := by rw [World.size_alloc]; omega
 have hE := hide elem_int
 replace t1 := hide t1
 replace t2 := hide t2
 replace t3 := hide t3
 clear hval
 go_enter Tryz.func181, Tryz.ntmps181
 go_upto_region 3 with fail
 have c2 : (w.alloc (.cells #[.int .i64 s0, .int .i64 s1, .slice A2 n2 k2, .slice A3 n3 k3] 27)).cell? ⟨w.heap.size, 2, none⟩ = some (.slice A2 n2 k2) := (cell_of_row _ _ 2 _ _ (0, 0) kE).trans rfl
 have c3 : (w.alloc (.cells #[.int .i64 s0, .int .i64 s1, .slice A2 n2 k2, .slice A3 n3 k3] 27)).cell? ⟨w.heap.size, 3, none⟩ = some (.slice A3 n3 k3) := (cell_of_row _ _ 3 _ _ (0, 0) kE).trans rfl
 clear kE
 generalize hWW : (w.alloc (.cells #[.int .i64 s0, .int .i64 s1, .slice A2 n2 k2, .slice A3 n3 k3] 27)) = W0 at *
 clear hWW
 have hbt1 : w.heap.size + 1 ≤ W0.heap.size := hbt
 go_loopw [7, 13] (fun o i wr => ∃ k m c A, k ≤ n3 ∧ m ≤ k ∧ o = .slice A m c ∧ i = .int .i64 (k : Nat) ∧ Hid (Own 1 iv wr W0.heap.size 2 A m c (folS (es.take k) ls lab S)) ∧ Below W0.heap.size W0 wr) (fun _ i _ => n3 - (intOf i).toNat)
 case atStart => exact ⟨0, 0, 0, none, Nat.zero_le _, Nat.zero_le _, rfl, rfl, Own.nil_ _ _ _, Below.refl _ _⟩
 case round =>
  obtain ⟨k, m, c, A, hk, hm, rfl, rfl, hown, hb⟩ := hrel
  have hz := hb.size
  have hwb := hW0.out.trans (hb.mono (by omega))
  have y2 := (hb.cell (p := ⟨w.heap.size, 2, none⟩) hbt).trans c2
  have y3 := (hb.cell (p := ⟨w.heap.size, 3, none⟩) hbt).trans c3
  clear c2 c3
  by_cases hlt : k < n3
  ·obtain ⟨b, off, f, lb, tg, rfl, -, -, g3, hx, p0, p1, p2, -, -, -⟩ := SlE.get t3.out hlt
   replace p0 := (hwb.cell g3).trans p0
   replace p1 := (hwb.cell (p := ⟨b, off + k * 3 + 1, none⟩) g3).trans p1
   replace p2 := (hwb.cell (p := ⟨b, off + k * 3 + 2, none⟩) g3).trans p2
   have hed := edge_of hlts.out hx
   have hl0 : (0 : Int) ≤ lb := hed.2.2.1
   have hl1 : lb < (n2 : Int) := by have := hed.2.2.2; have := l2.out; omega
   obtain ⟨b2, off2, r, rfl, -, -, g32, hr, p3, -⟩ := SlS.get t2.out (show lb.toNat < n2 by omega)
   have hh := hitS_at (lab := lab) (S := S) (f := f) (tg := tg) hr
   have hsu := folS_succ (ls := ls) (lab := lab) (S := S) hx
   have hbE : Below wr.heap.size wr (wr.alloc (.cells #[.int .i64 f, .int .i64 lb, .int .i64 tg] 84)) := (Below.refl _ _).alloc (Nat.le_refl _) _
   have kE := heap_alloc_new wr (.cells #[.int .i64 f, .int .i64 lb, .int .i64 tg] 84)
   have hgw : w.heap.size < wr.heap.size := by omega
   have x2 := (hbE.cell (p := ⟨w.heap.size, 2, none⟩) hgw).trans y2
   have x3 := (hbE.cell (p := ⟨w.heap.size, 3, none⟩) hgw).trans y3
   have z0 : (wr.alloc (.cells #[.int .i64 f, .int .i64 lb, .int .i64 tg] 84)).cell? ⟨wr.heap.size, 0, none⟩ = some (.int .i64 f) := (cell_of_row _ _ 0 _ _ (0, 0) kE).trans rfl
   have z1 : (wr.alloc (.cells #[.int .i64 f, .int .i64 lb, .int .i64 tg] 84)).cell? ⟨wr.heap.size, 1, none⟩ = some (.int .i64 lb) := (cell_of_row _ _ 1 _ _ (0, 0) kE).trans rfl
   have z2 : (wr.alloc (.cells #[.int .i64 f, .int .i64 lb, .int .i64 tg] 84)).cell? ⟨wr.heap.size, 2, none⟩ = some (.int .i64 tg) := (cell_of_row _ _ 2 _ _ (0, 0) kE).trans rfl
   have hbw : Below w.heap.size w (wr.alloc (.cells #[.int .i64 f, .int .i64 lb, .int .i64 tg] 84)) := hwb.trans (hbE.mono hwb.size)
   have p3' := (hbw.cell (p := ⟨b2, off2 + lb.toNat, none⟩) g32).trans p3
   have hbB := hb.trans (hbE.mono hz)
   have hzB := hbB.size
   have qc := containsI_calls f A1 n1 c1 S _ lo1 hi1 (t1.out.below hbw (.inr (Nat.le_refl _))) hS
   replace hown := hide (hown.out.alloc (.cells #[.int .i64 f, .int .i64 lb, .int .i64 tg] 84))
   have hI0 : (0 : Int) ≤ (k : Int) := by omega
   have hI1 : (k : Int) < (n3 : Int) := by omega
   replace hbB := hide hbB
   clear hed t1 t2 t3 hwb hb hbE kE p3 hz hbw
   generalize hany : S.any (fun x => decide (x = f)) = an at *
   clear hany
   replace qc := hide qc
   go_upto_region 5 with fail
   clear p0 p1 p2 y2 y3 x3
   generalize hWE : (wr.alloc (.cells #[.int .i64 f, .int .i64 lb, .int .i64 tg] 84)) = WE at *
   generalize hbE : wr.heap.size = bE at *
   clear hWE hbE
   have hza : ∀ o, W0.heap.size ≤ (WE.alloc o).heap.size := fun o => by rw [World.size_alloc]; omega
   by_cases hrl : r = lab
   ·subst hrl
    have hself : (r.toList == r.toList) = true := beq_self_eq_true _
    rw [hh, decide_eq_true rfl, Bool.and_true] at hsu
    cases an with
    | true =>
     rw [if_pos rfl] at hsu
     replace hsu := hide hsu
     clear hx hr hh
     go_wp2_with (first
      | (go_at_call 193; (with_reducible refine qc.out.mono ?_); rintro e w' ⟨rfl, rfl⟩)
      | (at_builtin; (with_reducible refine wpList_app rfl (.tmp 31) (.tmp 34) rfl hE.out flat_iv rfl (hown.out.alloc _) rfl (Sl.lit1' _ 2 tg _ rfl 1 _ ?c0) ?c1 (hza _) ?_); rotate_right; intro A5 c5 w5 hown5 hgr5 hb5 _))
     case c0 => rfl
     case c1 => omega
     have hb6 := (hbB.out.alloc hzB (.cells #[.int .i64 tg] 2)).trans hb5
     replace hown5 : Hid (Own 1 iv w5 W0.heap.size 2 A5 (m + 1) c5 (folS (es.take (k + 1)) ls r S)) := by show Own _ _ _ _ _ _ _ _ _; rw [hsu.out]; exact hown5
     go_roundw
     case rel => exact ⟨k + 1, m + 1, c5, A5, by omega, by omega, rfl, by go_num, hown5, hb6⟩
     case measure => simp [intOf]; omega
    | false =>
     replace hown : Hid (Own 1 iv WE W0.heap.size 2 A m c (folS (es.take (k + 1)) ls r S)) := by show Own _ _ _ _ _ _ _ _ _; rw [hsu]; simpa using hown.out
     clear hx hr hh hsu
     go_wp2_with (first
      | (go_at_call 193; (with_reducible refine qc.out.mono ?_); rintro e w' ⟨rfl, rfl⟩))
     go_roundw
     case rel => exact ⟨k + 1, m, c, A, by omega, by omega, rfl, by go_num, hown, hbB.out⟩
     case measure => simp [intOf]; omega
   ·obtain ⟨hne1, hne2⟩ := str_list_ne2 (a := lab) (b := r) (fun e => hrl e.symm)
    rw [hh, decide_eq_false hrl, Bool.and_false] at hsu
    replace hown : Hid (Own 1 iv WE W0.heap.size 2 A m c (folS (es.take (k + 1)) ls lab S)) := by show Own _ _ _ _ _ _ _ _ _; rw [hsu]; simpa using hown.out
    clear hx hr hh hsu hrl
    go_wp2_with fail
    go_roundw
    case rel => exact ⟨k + 1, m, c, A, by omega, by omega, rfl, by go_num, hown, hbB.out⟩
    case measure => simp [intOf]; omega
  ·have hkn : k = n3 := by omega
   have hall : es.take k = es := List.take_of_length_le (by rw [l3.out, hkn]; exact Nat.le_refl _)
   rw [hall] at hown
   have hf := folS_len es ls lab S
   have hm9 : m ≤ 1000000000 := by omega
   have q1 := hide (sortI_calls hown.out hm9)
   have hwz : W0.heap.size ≤ wr.heap.size := hz
   replace hb := hide hb
   replace hwb := hide hwb
   clear t1 t2 t3
   go_wp2_with fail
   refine q1.out.mono ?_
   rintro e w1 ⟨rfl, hs1, hg1⟩
   have hbs1 := hown.out.grown_below hg1 (Nat.le_refl _) hwz
   have q2 := hide (compactI_calls hs1 hm9)
   have hw1 : W0.heap.size ≤ w1.heap.size := Nat.le_trans hwz hbs1.size
   replace hs1 := hide hs1
   replace hbs1 := hide hbs1
   clear hg1
   go_wp2_with fail
   refine q2.out.mono ?_
   rintro e w2 ⟨rfl, hs2, hg2⟩
   have hbs2 := hide (hs1.out.grown_below hg2 (Nat.le_refl _) hw1)
   replace hs2 := hide hs2
   clear hg2
   go_wp2_with fail
   go_ret
   exact ⟨_, _, _, rfl, hs2.out.lower (by omega), hW0.out.trans (((hb.out.trans hbs1.out).trans hbs2.out).mono (by omega))⟩

end Go.Proofs.YtnhomkmfbngmgaaGreatDoor

namespace Go.Proofs.YtnhomkmfbngmgaaGreatDoor
set_option linter.unusedVariables false
set_option linter.unusedSimpArgs false

def addN (R : List Int) (v : Int) : List Int := if v ∈ R then R else R ++ [v]
def addL (R L : List Int) : List Int := L.foldl addN R
theorem addL_succ {R L : List Int} {k : Nat} {v : Int} (h : L[k]? = some v) : addL R (L.take (k + 1)) = addN (addL R (L.take k)) v := by
 unfold addL
 rw [List.take_add_one, h, List.foldl_append]
 rfl
theorem addN_mem {R : List Int} {v x : Int} : x ∈ addN R v ↔ x ∈ R ∨ x = v := by
 unfold addN
 split
 ·constructor
  ·exact .inl
  ·rintro (h | rfl)
   ·exact h
   ·assumption
 ·simp
theorem addL_mem : ∀ {L R : List Int} {x : Int}, x ∈ addL R L ↔ x ∈ R ∨ x ∈ L
 | [], R, x => by simp [addL]
 | v :: L, R, x => by
  show x ∈ addL (addN R v) L ↔ _
  rw [addL_mem, addN_mem, List.mem_cons]
  constructor
  ·rintro ((h | h) | h)
   ·exact .inl h
   ·exact .inr (.inl h)
   ·exact .inr (.inr h)
  ·rintro (h | h | h)
   ·exact .inl (.inl h)
   ·exact .inl (.inr h)
   ·exact .inr h

def Beg (N : Int) (S R : List Int) : Prop := ∃ T, R = S ++ T ∧ T.Nodup ∧ ∀ v ∈ T, v ∉ S ∧ 0 ≤ v ∧ v < N
theorem Beg.refl (N : Int) (S : List Int) : Beg N S S := ⟨[], by simp, List.nodup_nil, fun _ h => by cases h⟩
theorem Beg.add {N : Int} {S R : List Int} (h : Beg N S R) {v : Int} (h0 : 0 ≤ v) (h1 : v < N) : Beg N S (addN R v) := by
 obtain ⟨T, rfl, hn, hv⟩ := h
 unfold addN
 split
 ·exact ⟨T, rfl, hn, hv⟩
 ·rename_i hnot
  rw [List.mem_append] at hnot
  refine ⟨T ++ [v], by simp, ?_, ?_⟩
  ·rw [List.nodup_append]
   exact ⟨hn, by simp, fun a ha b hb => by rw [List.mem_singleton.1 hb]; rintro rfl; exact hnot (.inr ha)⟩
  ·intro x hx
   rcases List.mem_append.1 hx with hx | hx
   ·exact hv x hx
   ·rw [List.mem_singleton.1 hx]
    exact ⟨fun h => hnot (.inl h), h0, h1⟩
theorem Beg.addL {N : Int} {S : List Int} : ∀ {L R : List Int}, Beg N S R → (∀ v ∈ L, 0 ≤ v ∧ v < N) → Beg N S (addL R L)
 | [], R, h, _ => h
 | v :: L, R, h, hv => Beg.addL (L := L) (h.add (hv v (List.mem_cons_self ..)).1 (hv v (List.mem_cons_self ..)).2) fun x hx => hv x (List.mem_cons_of_mem _ hx)
theorem nodup_few_aux : ∀ (n : Nat) (l : List Nat), l.Nodup → (∀ x ∈ l, x < n) → l.length ≤ n
 | 0, l, _, h => by
  cases l with
  | nil => simp
  | cons a l => exact absurd (h a (by simp)) (by omega)
 | n + 1, l, hd, h => by
  have h1 := nodup_few_aux n (l.filter fun x => decide (x ≠ n)) (hd.filter _) (fun x hx => by
   obtain ⟨h2, h3⟩ := List.mem_filter.1 hx
   have := h x h2
   have h4 : x ≠ n := by simpa using h3
   omega)
  have h2 : l.length ≤ (l.filter fun x => decide (x ≠ n)).length + 1 := by
   have h3 : l.length = l.countP (fun x => decide (x ≠ n)) + l.countP (fun x => !(decide (x ≠ n))) := by
    rw [List.length_eq_countP_add_countP (fun x => decide (x ≠ n))]
    congr 1
    apply List.countP_congr
    intro x _
    simp
   have h4 : l.countP (fun x => !(decide (x ≠ n))) ≤ 1 := by
    have h5 : l.countP (fun x => !(decide (x ≠ n))) = l.count n := by
     unfold List.count
     apply List.countP_congr
     intro x _
     simp
    rw [h5]
    exact List.nodup_iff_count.1 hd n
   rw [← List.countP_eq_length_filter]
   omega
  omega
theorem nodup_few {N : Nat} : ∀ {T : List Int}, T.Nodup → (∀ v ∈ T, 0 ≤ v ∧ v < (N : Int)) → T.length ≤ N := by
 intro T hn hv
 have h1 : (T.map Int.toNat).Nodup := by
  rw [List.Nodup, List.pairwise_map]
  refine List.Pairwise.imp_of_mem (fun {a b} ha hb hne => ?_) hn
  have := hv a ha
  have := hv b hb
  omega
 have := nodup_few_aux N (T.map Int.toNat) h1 fun x hx => by
  obtain ⟨v, hvv, rfl⟩ := List.mem_map.1 hx
  have := hv v hvv
  omega
 simpa using this
theorem Beg.len {N : Nat} {S R : List Int} (h : Beg (N : Int) S R) : R.length ≤ S.length + N := by
 obtain ⟨T, rfl, hn, hv⟩ := h
 have := nodup_few hn fun v hx => (hv v hx).2
 rw [List.length_append]
 omega

structure TauI (N : Int) (es : List Ed) (ls : List ByteArray) (S R : List Int) (k : Nat) : Prop where
 beg : Beg N S R
 sound : ∀ v ∈ R, TauC es ls (· ∈ S) v
 closed : ∀ j, j < k → ∀ x, R[j]? = some x → ∀ v ∈ folV es ls tauB [x], v ∈ R
theorem TauI.start (N : Int) (es : List Ed) (ls : List ByteArray) (S : List Int) : TauI N es ls S S 0 :=
 ⟨Beg.refl _ _, fun v hv => .base hv, fun j hj => by omega⟩
theorem addL_get {R L : List Int} {j : Nat} (h : j < R.length) : (addL R L)[j]? = R[j]? := by
 induction L generalizing R with
 | nil => rfl
 | cons v L ih =>
  show (addL (addN R v) L)[j]? = _
  have h2 : j < (addN R v).length := by
   unfold addN
   split
   ·exact h
   ·rw [List.length_append]; omega
  rw [ih h2]
  unfold addN
  split
  ·rfl
  ·rw [List.getElem?_append_left h]
theorem addL_len {R L : List Int} : R.length ≤ (addL R L).length := by
 induction L generalizing R with
 | nil => exact Nat.le_refl _
 | cons v L ih =>
  show _ ≤ (addL (addN R v) L).length
  refine Nat.le_trans ?_ ih
  unfold addN
  split
  ·exact Nat.le_refl _
  ·rw [List.length_append]; omega
theorem TauI.next {N : Int} {es : List Ed} {ls : List ByteArray} {S R : List Int} {k : Nat} {x : Int} (h : TauI N es ls S R k) (hx : R[k]? = some x) (hN : ∀ e ∈ es, 0 ≤ e.2.2 ∧ e.2.2 < N) : TauI N es ls S (addL R (folV es ls tauB [x])) (k + 1) := by
 have hk : k < R.length := (List.getElem?_eq_some_iff.1 hx).1
 refine ⟨h.beg.addL fun v hv => ?_, fun v hv => ?_, fun j hj y hy v hv => ?_⟩
 ·obtain ⟨e, he, -, -, rfl⟩ := folV_mem.1 hv
  exact hN e he
 ·rcases addL_mem.1 hv with hv | hv
  ·exact h.sound v hv
  ·obtain ⟨e, he, h1, h2, rfl⟩ := folV_mem.1 hv
   refine .step ?_ he h2
   rw [List.mem_singleton.1 h1]
   exact h.sound x (List.mem_of_getElem? hx)
 ·rw [addL_get (by omega)] at hy
  rcases Nat.lt_or_ge j k with h1 | h1
  ·exact addL_mem.2 (.inl (h.closed j h1 y hy v hv))
  ·have : j = k := by omega
   subst this
   rw [hx] at hy
   cases hy
   exact addL_mem.2 (.inr hv)
theorem TauI.done {N : Int} {es : List Ed} {ls : List ByteArray} {S R : List Int} {k : Nat} (h : TauI N es ls S R k) (hk : R.length ≤ k) {v : Int} : v ∈ R ↔ TauC es ls (· ∈ S) v := by
 refine ⟨h.sound v, fun hv => ?_⟩
 induction hv with
 | base hv =>
  obtain ⟨T, rfl, -⟩ := h.beg
  exact List.mem_append.2 (.inl hv)
 | step _ he hl ih =>
  obtain ⟨j, hj, e⟩ := List.mem_iff_getElem.1 ih
  exact h.closed j (by omega) _ (List.getElem?_eq_some_iff.2 ⟨hj, e⟩) _ (folV_mem.2 ⟨_, he, List.mem_singleton.2 rfl, hl, rfl⟩)

end Go.Proofs.YtnhomkmfbngmgaaGreatDoor

namespace Go.Proofs.YtnhomkmfbngmgaaGreatDoor
open Go.ChangeShapes Go.WideShapes Go.ChangeAt Go.RowKit
set_option linter.unusedVariables false

theorem alloc_some {w : World} {o : Obj} {a : Addr} {v : Value} (h : w.cell? a = some v) : (w.alloc o).cell? a = some v := (World.cell?_alloc_some w a o (by rw [h]; rfl)).trans h
structure OwnC {α : Type} (size : Nat) (f : α → List Value) (t : TypeId) (w1 : World) (BB : Nat) (w : World) (A : Option Addr) (m c : Nat) (l : List α) : Prop where
 own : Own size f w BB t A m c l
 at_ : ∀ g, (Value.slice A m c).ownBlock = some g → g = BB ∨ w1.heap.size ≤ g
 only : Only BB (BB + 1) w1 w
theorem OwnC.below {α : Type} {size : Nat} {f : α → List Value} {t : TypeId} {w1 w w' : World} {BB m c : Nat} {A : Option Addr} {l : List α} (h : OwnC size f t w1 BB w A m c l) (hb : Below w.heap.size w w') : OwnC size f t w1 BB w' A m c l :=
 ⟨h.own.below hb (Nat.le_refl _), h.at_, ⟨hb.os.trans h.only.os, hb.tape.trans h.only.tape, hb.output.trans h.only.output, Nat.le_trans h.only.size hb.size, fun b hb' ho => (hb.block b (Nat.lt_of_lt_of_le hb' h.only.size)).trans (h.only.block b hb' ho)⟩⟩
theorem OwnC.app {α : Type} {size : Nat} {f : α → List Value} {t : TypeId} {w1 w w' : World} {BB m c m' c' : Nat} {A A' : Option Addr} {l l' : List α} (h : OwnC size f t w1 BB w A m c l) (ho : Own size f w' BB t A' m' c' l') (hg : w.grownBy w' (Value.slice A m c).ownBlock)
  (ha : (Value.slice A' m' c').ownBlock = (Value.slice A m c).ownBlock ∨ (Value.slice A' m' c').ownBlock = some w.heap.size) : OwnC size f t w1 BB w' A' m' c' l' := by
 refine ⟨ho, fun g hg' => ?_, ⟨hg.os.trans h.only.os, hg.tape.trans h.only.tape, hg.output.trans h.only.output, Nat.le_trans h.only.size hg.size, fun b hb' hb2 => (hg.block b (Nat.lt_of_lt_of_le hb' h.only.size) fun e => ?_).trans (h.only.block b hb' hb2)⟩⟩
 ·rcases ha with ha | ha
  ·exact h.at_ g (by rw [← ha]; exact hg')
  ·rw [ha] at hg'
   injection hg' with e
   have := h.only.size
   omega
 ·have := h.at_ b e.symm
  omega

end Go.Proofs.YtnhomkmfbngmgaaGreatDoor

namespace Go.Proofs.YtnhomkmfbngmgaaGreatDoor
open Go.ChangeShapes Go.WideShapes Go.ChangeAt Go.RowKit Go.Sort
set_option linter.unusedVariables false
set_option linter.unusedSimpArgs false

theorem cloneT_calls (A : Option Addr) (n c : Nat) (l : List Int) (w : World) (lo hi : Nat) (h : SlI w lo hi A n l) (hn : n ≤ 1048576) :
  Calls Tryz.prog 194 #[.slice A n c] w fun e w' => ∃ A' c', e = .returned (.slice A' n c') ∧ Own 1 iv w' w.heap.size 2 A' n c' l ∧ Below w.heap.size w w' := by
 have hnil : ∀ (W : World) (a : Option Addr) (m d : Nat), (binOp .eql 32 (.slice a m d) (.slice none 0 0)).run Tryz.prog W = .ok (.bool a.isNone) W := fun W a m d => Lib.run_eql_slice_nil W 32 _ a m d 0 0 Tryz.underlying32
 have hE := hide elem_int
 cases A with
 | none =>
  have hn0 : n = 0 := by
   rcases Nat.eq_zero_or_pos n with h0 | h0
   ·exact h0
   ·obtain ⟨b, off, e, _⟩ := h.at_ h0
    cases e
  subst hn0
  have hl := List.eq_nil_of_length_eq_zero h.len
  subst hl
  go_enter Tryz.func194, Tryz.ntmps194
  go_wp2_with fail
  go_ret
  exact ⟨none, 0, rfl, Own.nil_ _ _ _, Below.refl _ _⟩
 | some a =>
  have hs := hide (h.below ((Below.refl w.heap.size w).alloc (Nat.le_refl _) (.cells #[] 2)) (.inr (Nat.le_refl _)))
  have hz : w.heap.size ≤ (w.alloc (.cells #[] 2)).heap.size := by simp
  clear h
  go_enter Tryz.func194, Tryz.ntmps194
  go_wp2_with (first | (at_builtin; (with_reducible refine wpList_app rfl (.tmp 5) (.tmp 6) rfl hE.out flat_iv rfl (Own.made w 2 (Nat.le_refl _)) rfl hs.out ?c1 hz ?_); rotate_right; intro A2 c2 w2 hown2 hgr2 hb2 _))
  case c1 => omega
  go_ret
  rw [Nat.zero_add, List.nil_append] at hown2
  exact ⟨_, _, rfl, hown2, ((Below.refl _ _).alloc (Nat.le_refl _) _).trans hb2⟩

theorem Own.toC {α : Type} {size : Nat} {f : α → List Value} {w : World} {base n c : Nat} {e : TypeId} {A : Option Addr} {l : List α} (h : Own size f w base e A n c l) (hb : base ≤ w.heap.size) :
  ∃ BB, base ≤ BB ∧ BB ≤ w.heap.size ∧ Own size f w BB e A n c l ∧ ∀ g, (Value.slice A n c).ownBlock = some g → g = BB := by
 rcases h.2.2 with ⟨hv, hn⟩ | ⟨g, cap, cur, hv, hbg, hg, rest⟩
 ·cases hv
  exact ⟨base, Nat.le_refl _, hb, h, fun g hg => by cases hg⟩
 ·cases hv
  have hlt : g < w.heap.size := (Array.getElem?_eq_some_iff.1 hg).1
  exact ⟨g, hbg, by omega, ⟨h.1, h.2.1, .inr ⟨g, c, cur, rfl, Nat.le_refl _, hg, rest⟩⟩, fun g' hg' => by injection hg' with e; exact e.symm⟩

set_option maxRecDepth 100000 in
set_option maxHeartbeats 3200000 in
theorem internal_calls (s0 s1 : Int) (A2 : Option Addr) (n2 k2 : Nat) (A3 : Option Addr) (n3 k3 : Nat) (A1 : Option Addr) (n1 c1 : Nat) (S : List Int) (ls : List ByteArray) (es : List Ed) (w : World) (lo hi lo1 hi1 : Nat)
  (t2 : SlS w lo hi A2 n2 ls) (t3 : SlE w lo hi A3 n3 es) (t1 : SlI w lo1 hi1 A1 n1 S) (hS : n1 ≤ 1000000) (hes : n3 ≤ 1048576) (hval : ltsV (s0, s1, ls, es) = true) :
  Calls Tryz.prog 264 #[.agg #[.int .i64 s0, .int .i64 s1, .slice A2 n2 k2, .slice A3 n3 k3], .slice A1 n1 c1] w fun e w' => ∃ A n c R, e = .returned (.slice A n c) ∧ SlI w' w.heap.size w'.heap.size A n R ∧ (∀ v, v ∈ R ↔ TauC es ls (· ∈ S) v) ∧ n ≤ n1 + 40 ∧ Below w.heap.size w w' := by
 have l1 := t1.len
 have he3 : es.length ≤ 300 := by
  have := hval
  rw [ltsV_eq] at this
  simp only [Bool.and_eq_true] at this
  exact of_decide_eq_true this.1.2.2.2
 have hst : s0 ≤ 40 ∧ 1 ≤ s0 := by
  have := hval
  rw [ltsV_eq] at this
  simp only [Bool.and_eq_true] at this
  have h1 := this.1.1
  unfold inB at h1
  rw [Bool.and_eq_true] at h1
  exact ⟨of_decide_eq_true h1.2, of_decide_eq_true h1.1⟩
 obtain ⟨N, rfl⟩ : ∃ N : Nat, s0 = (N : Int) := ⟨s0.toNat, by omega⟩
 have hN40 : N ≤ 40 := by omega
 have hto : ∀ e ∈ es, 0 ≤ e.2.2 ∧ e.2.2 < (N : Int) := by
  intro e he
  obtain ⟨k, hk, hx⟩ := List.mem_iff_getElem.1 he
  have := (edge_of hval (k := k) (f := e.1) (lb := e.2.1) (tg := e.2.2) (List.getElem?_eq_some_iff.2 ⟨hk, hx⟩)).2.1
  omega
 have hlts := hide hval
 have l3 := hide t3.len
 have hW0 := hide (show Below w.heap.size w (w.alloc (.cells #[.int .i64 (N : Int), .int .i64 s1, .slice A2 n2 k2, .slice A3 n3 k3] 27)) from (Below.refl _ _).alloc (Nat.le_refl _) _)
 have kE := heap_alloc_new w (.cells #[.int .i64 (N : Int), .int .i64 s1, .slice A2 n2 k2, .slice A3 n3 k3] 27)
 have hbt : w.heap.size < (w.alloc (.cells #[.int .i64 (N : Int), .int .i64 s1, .slice A2 n2 k2, .slice A3 n3 k3] 27)).heap.size := by rw [World.size_alloc]; omega
 have hE := hide elem_int
 have q0 := hide (cloneT_calls A1 n1 c1 S _ lo1 hi1 (t1.below hW0.out (.inr (Nat.le_refl _))) (by omega))
 replace t1 := hide t1
 replace t2 := hide t2
 replace t3 := hide t3
 replace hto := hide hto
 clear hval hst
 go_enter Tryz.func264, Tryz.ntmps264
 go_upto_region 1 with fail
 have x0 : (w.alloc (.cells #[.int .i64 (N : Int), .int .i64 s1, .slice A2 n2 k2, .slice A3 n3 k3] 27)).cell? ⟨w.heap.size, 0, none⟩ = some (.int .i64 (N : Int)) := (cell_of_row _ _ 0 _ _ (0, 0) kE).trans rfl
 have x1 : (w.alloc (.cells #[.int .i64 (N : Int), .int .i64 s1, .slice A2 n2 k2, .slice A3 n3 k3] 27)).cell? ⟨w.heap.size, 1, none⟩ = some (.int .i64 s1) := (cell_of_row _ _ 1 _ _ (0, 0) kE).trans rfl
 have x2 : (w.alloc (.cells #[.int .i64 (N : Int), .int .i64 s1, .slice A2 n2 k2, .slice A3 n3 k3] 27)).cell? ⟨w.heap.size, 2, none⟩ = some (.slice A2 n2 k2) := (cell_of_row _ _ 2 _ _ (0, 0) kE).trans rfl
 have x3 : (w.alloc (.cells #[.int .i64 (N : Int), .int .i64 s1, .slice A2 n2 k2, .slice A3 n3 k3] 27)).cell? ⟨w.heap.size, 3, none⟩ = some (.slice A3 n3 k3) := (cell_of_row _ _ 3 _ _ (0, 0) kE).trans rfl
 clear kE
 generalize hWW : (w.alloc (.cells #[.int .i64 (N : Int), .int .i64 s1, .slice A2 n2 k2, .slice A3 n3 k3] 27)) = W0 at *
 clear hWW
 have hbt1 : w.heap.size + 1 ≤ W0.heap.size := hbt
 go_upto_region 3 with (first | (go_at_call 194; (with_reducible refine q0.out.mono ?_); rintro e wx ⟨A0, c0, rfl, hown0, hb0⟩))
 have hB0 := hb0.size
 replace hown0 := hide hown0
 go_loopg [5, 6] (n1 + 40) (fun G o i wr => ∃ k m c A R, k ≤ m ∧ o = .slice A m c ∧ i = .int .i64 (k : Nat) ∧ Hid (Own 1 iv wr W0.heap.size 2 A m c R) ∧ Hid (TauI (N : Int) es ls S R k) ∧ Hid (n1 + 40 ≤ G + k) ∧ Below W0.heap.size W0 wr)
 case atStart => exact ⟨0, n1, c0, A0, S, Nat.zero_le _, rfl, rfl, hown0, TauI.start _ _ _ _, Nat.le_refl _, hb0⟩
 case round =>
  clear hown0 hb0 hB0
  obtain ⟨k, m, c, A, R, hk, rfl, rfl, hown, hI, hG, hb⟩ := hrel
  have hz := hb.size
  have hml := hown.out.len
  have hmx := hI.out.beg.len
  rw [hml, l1] at hmx
  by_cases hlt : k < m
  ·obtain ⟨G3, rfl⟩ : ∃ G3, gk = G3 + 1 := ⟨gk - 1, by have := hG.out; omega⟩
   have hG3 : Hid (n1 + 40 ≤ G3 + (k + 1)) := by have := hG.out; show _ ≤ _; omega
   obtain ⟨b, off, x, rfl, -, -, gb, hx, px, -⟩ := SlI.get (hown.out.sl flat_iv) hlt
   have hwb := hW0.out.trans (hb.mono (by omega))
   have y0 := (hb.cell (p := ⟨w.heap.size, 0, none⟩) hbt).trans x0
   have y1 := (hb.cell (p := ⟨w.heap.size, 1, none⟩) hbt).trans x1
   have y2 := (hb.cell (p := ⟨w.heap.size, 2, none⟩) hbt).trans x2
   have y3 := (hb.cell (p := ⟨w.heap.size, 3, none⟩) hbt).trans x3
   have hA : Below wr.heap.size wr (wr.alloc (.cells #[.int .i64 x] 2)).drew := ((Below.refl _ _).alloc (Nat.le_refl _) (.cells #[.int .i64 x] 2)).drew
   have hsz : (wr.alloc (.cells #[.int .i64 x] 2)).drew.heap.size = wr.heap.size + 1 := by show (wr.alloc _).heap.size = _; rw [World.size_alloc]
   have hwA := hwb.trans (hA.mono hwb.size)
   have qf := followS_calls (N : Int) s1 A2 n2 k2 A3 n3 k3 (some ⟨wr.heap.size, 0, none⟩) 1 1 [x] tauB ls es (wr.alloc (.cells #[.int .i64 x] 2)).drew lo hi 0 (wr.heap.size + 1) (t2.out.below hwA (.inr (Nat.le_refl _))) (t3.out.below hwA (.inr (Nat.le_refl _))) ((Sl.lit1' wr 2 x _ rfl 1 _ rfl).drew) (by omega) hes hlts.out
   rw [show tauB = (⟨#[116, 97, 117]⟩ : ByteArray) from rfl] at qf
   replace qf := hide qf
   have hI0 : (0 : Int) ≤ (k : Int) := by omega
   have hI1 : (k : Int) < (m : Int) := by omega
   obtain ⟨BB, hB1, hB2, hownB, hgB⟩ := hown.out.toC hz
   have hg9 : w.heap.size < (wr.alloc (.cells #[.int .i64 x] 2)).drew.heap.size := by rw [hsz]; omega
   have hg8 : b < (wr.alloc (.cells #[.int .i64 x] 2)).drew.heap.size := by rw [hsz]; omega
   have hnx := hI.out.next hx hto.out
   have ya0 : (wr.alloc (.cells #[.int .i64 x] 2)).drew.cell? ⟨w.heap.size, 0, none⟩ = some (.int .i64 (N : Int)) := alloc_some y0
   have ya1 : (wr.alloc (.cells #[.int .i64 x] 2)).drew.cell? ⟨w.heap.size, 1, none⟩ = some (.int .i64 s1) := alloc_some y1
   have ya2 : (wr.alloc (.cells #[.int .i64 x] 2)).drew.cell? ⟨w.heap.size, 2, none⟩ = some (.slice A2 n2 k2) := alloc_some y2
   have ya3 : (wr.alloc (.cells #[.int .i64 x] 2)).drew.cell? ⟨w.heap.size, 3, none⟩ = some (.slice A3 n3 k3) := alloc_some y3
   have pa : (wr.alloc (.cells #[.int .i64 x] 2)).drew.cell? ⟨b, off + k, none⟩ = some (.int .i64 x) := alloc_some px
   replace hnx := hide hnx
   replace hownB := hide hownB
   replace hgB := hide hgB
   replace hA := hide hA
   replace hwb := hide hwb
   replace hb := hide hb
   replace hsz := hide hsz
   clear hx hwA hown hI
   go_upto_region 5 with fail
   go_region_held3 (fun w' => w'.cell? ⟨w.heap.size, 0, none⟩ = some (.int .i64 (N : Int)) ∧ w'.cell? ⟨w.heap.size, 1, none⟩ = some (.int .i64 s1) ∧ w'.cell? ⟨w.heap.size, 2, none⟩ = some (.slice A2 n2 k2) ∧ w'.cell? ⟨w.heap.size, 3, none⟩ = some (.slice A3 n3 k3) ∧ w'.cell? ⟨b, off + k, none⟩ = some (.int .i64 x)) (first | exact ⟨y0, y1, y2, y3, px⟩ | exact ⟨z0, z1, z2, z3, pz⟩ | go_keep)
    (first | (go_at_call 181; (with_reducible refine qf.out.mono ?_); rintro e w5 ⟨Af, nf, cf, rfl, hof, hb5⟩; have z0 := (hb5.cell (p := ⟨w.heap.size, 0, none⟩) hg9).trans ya0; have z1 := (hb5.cell (p := ⟨w.heap.size, 1, none⟩) hg9).trans ya1; have z2 := (hb5.cell (p := ⟨w.heap.size, 2, none⟩) hg9).trans ya2; have z3 := (hb5.cell (p := ⟨w.heap.size, 3, none⟩) hg9).trans ya3; have pz := (hb5.cell (p := ⟨b, off + k, none⟩) hg8).trans pa; replace hof := hide hof; replace hb5 := hide hb5))
   have hb5w : Below wr.heap.size wr w5 := hA.out.trans (hb5.out.mono (by rw [hsz.out]; omega))
   have hC : Hid (OwnC 1 iv 2 w5 BB w5 (some ⟨b, off, none⟩) m c R) := ⟨hownB.out.below hb5w (Nat.le_refl _), fun g hg => .inl (hgB.out g hg), Only.refl _ _ _⟩
   have hfs := hide (hof.out.sl flat_iv)
   have hfl := hof.out.len
   have hfl2 := folV_len es ls tauB [x]
   have hnf : nf ≤ 300 := by rw [show folV es ls ⟨#[116, 97, 117]⟩ [x] = folV es ls tauB [x] from rfl] at hfl; have := l3.out; omega
   have hfa : (folV es ls tauB [x]).take nf = folV es ls tauB [x] := List.take_of_length_le (by rw [show folV es ls ⟨#[116, 97, 117]⟩ [x] = folV es ls tauB [x] from rfl] at hfl; omega)
   replace hfs : Hid (SlI w5 (wr.heap.size + 1) w5.heap.size Af nf (folV es ls tauB [x])) := by have := hfs.out; rw [hsz.out] at this; exact this
   have hw5 := hb5w.size
   have hbW : Below W0.heap.size W0 w5 := hb.out.trans (hb5w.mono hz)
   replace hnx := hnx.out
   generalize folV es ls tauB [x] = F at *
   replace hnx := hide hnx
   replace hfa := hide hfa
   replace hbW := hide hbW
   replace hb5w := hide hb5w
   have k0 := hide z0
   have k1 := hide z1
   have k2 := hide z2
   have k3 := hide z3
   clear hfl hfl2 hof hb5 hA hownB hgB y0 y1 y2 y3 ya0 ya1 ya2 ya3 pa px pz z0 z1 z2 z3 hg9 hg8 qf hsz
   obtain ⟨wo, rfl⟩ : ∃ wo : World, wo = wr := ⟨_, rfl⟩
   go_upto_region 6 with fail
   go_loopg [5, 25] nf (fun G o i wr => ∃ j m2 c2 A4 R2, j ≤ nf ∧ m2 ≤ m + j ∧ o = .slice A4 m2 c2 ∧ i = .int .i64 (j : Nat) ∧ Hid (OwnC 1 iv 2 w5 BB wr A4 m2 c2 R2) ∧ Hid (R2 = addL R (F.take j)) ∧ Hid (nf ≤ G + j))
   case atStart => exact ⟨0, m, c, _, R, Nat.zero_le _, by omega, rfl, rfl, hC, rfl, by show _ ≤ _; omega⟩
   case round =>
    clear hC
    obtain ⟨j, m2, c2, A4, R2, hj, hm2, rfl, rfl, hC, hR2, hG2⟩ := hrel
    have hzz := hC.out.only.size
    by_cases hlt2 : j < nf
    ·obtain ⟨G4, rfl⟩ : ∃ G4, gk = G4 + 1 := ⟨gk - 1, by have := hG2.out; omega⟩
     have hG4 : Hid (nf ≤ G4 + (j + 1)) := by have := hG2.out; show _ ≤ _; omega
     obtain ⟨bf, of_, v, rfl, -, -, gf, hv, pv, -⟩ := SlI.get (Sl.only hfs.out hC.out.only (.inr (by omega))) hlt2
     have qc := hide (containsI_calls v A4 m2 c2 R2 wr _ _ (hC.out.own.sl flat_iv) (by omega))
     have hsu := addL_succ (R := R) hv
     rw [← hR2.out] at hsu
     have hJ0 : (0 : Int) ≤ (j : Int) := by omega
     have hJ1 : (j : Int) < (nf : Int) := by omega
     replace hR2 := hide hR2
     clear hv
     by_cases hin : v ∈ R2
     ·have hany : R2.any (fun x => decide (x = v)) = true := List.any_eq_true.2 ⟨v, hin, decide_eq_true rfl⟩
      rw [hany] at qc
      rw [addN, if_pos hin] at hsu
      replace hsu := hide hsu
      clear hany hin hR2
      go_wp2_with (first
       | (go_at_call 193; (with_reducible refine qc.out.mono ?_); rintro e w' ⟨rfl, rfl⟩))
      go_roundg G4
      case measure => omega
      case rel => exact ⟨j + 1, m2, c2, A4, R2, by omega, by omega, rfl, by go_num, hC, hsu.out.symm, hG4⟩
     ·have hany : R2.any (fun x => decide (x = v)) = false := by
       cases h : R2.any (fun x => decide (x = v)) with
       | false => rfl
       | true =>
        obtain ⟨y, hy, e⟩ := List.any_eq_true.1 h
        rw [of_decide_eq_true e] at hy
        exact (hin hy).elim
      rw [hany] at qc
      rw [addN, if_neg hin] at hsu
      replace hsu := hide hsu
      have hownA := hC.out.below ((Below.refl _ _).alloc (Nat.le_refl _) (.cells #[.int .i64 v] 2))
      have hza : BB ≤ (wr.alloc (.cells #[.int .i64 v] 2)).heap.size := by rw [World.size_alloc]; omega
      replace hownA := hide hownA
      clear hany hin hR2 hC
      go_wp2_with (first
       | (go_at_call 193; (with_reducible refine qc.out.mono ?_); rintro e w' ⟨rfl, rfl⟩)
       | (at_builtin; (with_reducible refine wpList_app rfl (.tmp 33) (.tmp 35) rfl hE.out flat_iv rfl hownA.out.own rfl (Sl.lit1' wr 2 v _ rfl 1 _ ?c0) ?c1 hza ?_); rotate_right; intro A7 c7 w7 hown7 hgr7 hb7 hat7))
      case c0 => rfl
      case c1 => omega
      have hown8 := hide (hownA.out.app hown7 hgr7 hat7)
      clear hown7 hgr7 hb7 hat7 hownA
      go_roundg G4
      case measure => omega
      case rel => exact ⟨j + 1, m2 + 1, c7, A7, R2 ++ [v], by omega, by omega, rfl, by go_num, hown8, hsu.out.symm, hG4⟩
    ·have hjn : j = nf := by omega
     subst hjn
     have hR3 : R2 = addL R F := by have := hR2.out; rwa [hfa.out] at this
     subst hR3
     have hbN := Only.below hbW.out hC.out.only hB1 (Nat.le_trans hz hw5)
     have hownN := hide (hC.out.own.lower hB1)
     have hlenN := hnx.out.beg.len
     have hkm : k + 1 ≤ m2 := by have h1 := hownN.out.len; have h2 := addL_len (R := R) (L := F); omega
     clear hC hR2
     go_wp2_with fail
     go_roundg G3
     case measure => omega
     case rel => exact ⟨k + 1, m2, c2, A4, addL R F, hkm, rfl, by go_num, hownN, hnx, hG3, hbN⟩
  ·have hkm : k = m := by omega
   subst hkm
   have q1 := hide (sortI_calls hown.out (by omega))
   have hdone : ∀ v, v ∈ R ↔ TauC es ls (· ∈ S) v := fun v => hI.out.done (by omega)
   have hwz := hz
   replace hb := hide hb
   go_wp2_with fail
   refine q1.out.mono ?_
   rintro e w1 ⟨rfl, hs1, hg1⟩
   have hbs1 := hide (hown.out.grown_below hg1 (Nat.le_refl _) hwz)
   have hsl := hide (hs1.sl flat_iv)
   clear hs1 hg1
   go_wp2_with fail
   go_ret
   exact ⟨_, _, _, _, rfl, hsl.out.more (by omega) (Nat.le_refl _), fun v => sortI_mem.trans (hdone v), by omega, hW0.out.trans ((hb.out.trans hbs1.out).mono (by omega))⟩

end Go.Proofs.YtnhomkmfbngmgaaGreatDoor

namespace Go.Proofs.YtnhomkmfbngmgaaGreatDoor
open Go.ChangeShapes Go.WideShapes Go.ChangeAt Go.RowKit Go.Lib
set_option linter.unusedVariables false

def cellsD : DataW Unit → List Value
 | .agg l => l.flatMap fun x => match x with
  | .lit (.int k z) => [.int k z]
  | _ => []
 | _ => []
noncomputable def laidWorld (os : Os) : World :=
 let w0 := World.doorLaid Tryz.prog 400 os
 { w0 with heap := w0.heap.modify 2 fun
   | .cells _ t f => .cells (cellsD Rows.laid_unicode_utf8_first).toArray t f
   | o => o }
theorem laid_met (os : Os) (args : Array Value) : laidMet Tryz.prog Rows.fnLtsRow.laid ((laidWorld os).forCall (fun _ _ => 0) ⟨#[], args, []⟩).memory :=
 laidMet_of_run' 8 (by kernel_rfl) (by kernel_rfl)

end Go.Proofs.YtnhomkmfbngmgaaGreatDoor

namespace Go.Proofs.YtnhomkmfbngmgaaGreatDoor
open Go.ChangeShapes Go.WideShapes Go.ChangeAt Go.RowKit
open Go.Maps (Keyed)
set_option linter.unusedVariables false

def pairV (q : Int × Int) : Value := .agg #[.int .i64 q.1, .int .i64 q.2]
theorem laidP : laidOutB Tryz.prog = true := by kernel_rfl
set_option maxRecDepth 100000 in
theorem keyedP : Keyed Tryz.prog 177 := Keyed.of_law (Go.deep_law_laid laidP (m := 2) (by omega) (of_decide_eq_true (by kernel_rfl)) (by kernel_rfl) (by rw [Tryz.underlying177]))
theorem pairV_inj {a b : Int × Int} (h : pairV a = pairV b) : a = b := by
 unfold pairV at h
 injection h with h
 injection h with h
 injection h with h1 h2
 injection h2 with h2 _
 injection h1 with _ h1
 injection h2 with _ h2
 exact Prod.ext h1 h2

end Go.Proofs.YtnhomkmfbngmgaaGreatDoor

namespace Go.Proofs.YtnhomkmfbngmgaaGreatDoor
open Go.ChangeShapes Go.WideShapes Go.ChangeAt Go.RowKit
open Go.Maps (Keyed)
set_option linter.unusedVariables false

abbrev PQ2 := Int × Int
def KL (q : PQ2) (l : Lit) : Prop := keyOf Tryz.prog 177 (pairV q) = some l
theorem KL.inj {a b : PQ2} {l : Lit} (h : KL a l) (g : KL b l) : a = b := pairV_inj (keyedP.inj h g)
section
variable {w w' : World} {b : Nat} {S : List PQ2}
end

section
variable {w w' : World} {b r : Nat} {S L : List PQ2} {cnt : Nat}
end
section
variable {w : World} {ops : Array Oper} {rest : List Oper} {o : Oper} {a : Act} {Q : Exit → Act → World → Prop} {b r : Nat} {S L : List PQ2} {cnt : Nat}
end
end Go.Proofs.YtnhomkmfbngmgaaGreatDoor

namespace Go.Proofs.YtnhomkmfbngmgaaGreatDoor
open Go.ChangeShapes Go.WideShapes Go.ChangeAt Go.RowKit Go.Sort Go.Lib
set_option linter.unusedVariables false
set_option linter.unusedSimpArgs false

set_option maxRecDepth 100000 in
theorem compareLabels_calls (a b : ByteArray) (w : World) : Calls Tryz.prog 226 #[.string a, .string b] w fun e w' => e = .returned (.int .i64 (cmpB (toL a) (toL b))) ∧ w' = w := by
 have q := Tryz.strings_Compare a b
 by_cases h1 : a = b
 ·subst h1
  have hv : Hid (cmpB (toL a) (toL a) = 0) := by show _ = _; unfold cmpB; rw [if_pos rfl]
  have hself : (a.toList == a.toList) = true := beq_self_eq_true _
  clear q
  go_enter Tryz.func226, Tryz.ntmps226
  go_wp2_with fail
  go_ret
  exact ⟨ret_i (by rw [hv.out]), rfl⟩
 ·have n1 := str_neq h1
  have n2 : ¬ a.toList = b.toList := fun e => by rw [e, beq_self_eq_true] at n1; cases n1
  have n3 : ¬ toL a = toL b := fun e => h1 (toL_inj e)
  by_cases h2 : a = tauB
  ·have hv : Hid (cmpB (toL a) (toL b) = -1) := by show _ = _; unfold cmpB; rw [if_neg n3, if_pos (by rw [h2, toL_tau])]
   have t1 : (a.toList == [116, 97, 117]) = true := by rw [h2, tau_list]; rfl
   clear q n3 h1 h2
   go_enter Tryz.func226, Tryz.ntmps226
   go_wp2_with fail
   go_ret
   exact ⟨ret_i (by rw [hv.out]), rfl⟩
  ·have t1 : (a.toList == [116, 97, 117]) = false := by have := str_neq h2; rwa [tau_list] at this
   have t2 : ¬ a.toList = [116, 97, 117] := fun e => by rw [e] at t1; cases t1
   have t3 : ¬ toL a = tauBL := fun e => h2 (toL_inj (e.trans toL_tau.symm))
   by_cases h3 : b = tauB
   ·have hv : Hid (cmpB (toL a) (toL b) = 1) := by show _ = _; unfold cmpB; rw [if_neg n3, if_neg t3, if_pos (by rw [h3, toL_tau])]
    have u1 : (b.toList == [116, 97, 117]) = true := by rw [h3, tau_list]; rfl
    clear q n3 t3 h1 h2 h3
    go_enter Tryz.func226, Tryz.ntmps226
    go_wp2_with fail
    go_ret
    exact ⟨ret_i (by rw [hv.out]), rfl⟩
   ·have u1 : (b.toList == [116, 97, 117]) = false := by have := str_neq h3; rwa [tau_list] at this
    have u2 : ¬ b.toList = [116, 97, 117] := fun e => by rw [e] at u1; cases u1
    have u3 : ¬ toL b = tauBL := fun e => h3 (toL_inj (e.trans toL_tau.symm))
    have hv : Hid (cmpB (toL a) (toL b) = Lib.compareBytes a.data.toList b.data.toList) := by show _ = _; unfold cmpB; rw [if_neg n3, if_neg t3, if_neg u3]; rfl
    generalize Lib.compareBytes a.data.toList b.data.toList = r at *
    replace q := hide q
    clear n3 t3 u3 h1 h2 h3
    go_enter Tryz.func226, Tryz.ntmps226
    go_wp2_with (first | (go_at_call 292; (with_reducible refine (q.out _).mono ?_); rintro e w5 ⟨rfl, rfl⟩))
    go_ret
    exact ⟨ret_i (by rw [hv.out]), rfl⟩

theorem strv_map (l : List ByteArray) : l.flatMap strv = l.map Value.string := by
 induction l with
 | nil => rfl
 | cons x l ih => rw [List.flatMap_cons, ih]; rfl

section
variable {w : World} {base g n c q : Nat} {e : TypeId} {l : List ByteArray} {d : List (List UInt8)} {os : Array Obj}

theorem putS_block (w : World) (g q : Nat) (d : List (List UInt8)) (os : Array Obj) (hg : g < w.heap.size) :
  (grow (putRow encStr (Sort.ahead w q) g 0 d.toArray) os).heap[g]? = (w.heap[g]?).map (onCells (Go.Sort.putCells encStr 0 d.toArray)) := by
 rw [heap_grow_old _ _ (by simpa [putRow, mapBlock, Sort.ahead] using hg)]
 simp [putRow, mapBlock, Sort.ahead, Array.getElem?_modify]

theorem putS_grown (w : World) (g q : Nat) (d : List (List UInt8)) (os : Array Obj) : w.grownBy (grow (putRow encStr (Sort.ahead w q) g 0 d.toArray) os) (some g) := by
 refine ⟨rfl, rfl, rfl, by simp [putRow, mapBlock, Sort.ahead], fun k hk hne => ?_⟩
 rw [heap_grow_old _ _ (by simpa [putRow, mapBlock, Sort.ahead] using hk)]
 have hne' : g ≠ k := fun h => hne (by rw [h])
 simp [putRow, mapBlock, Sort.ahead, Array.getElem?_modify, hne']

theorem Own.putS (h : Own 1 strv w base e (some ⟨g, 0, none⟩) n c l) (hd : d.length = n) {m : Nat} (hm : m ≤ n) :
  Own 1 strv (grow (putRow encStr (Sort.ahead w q) g 0 d.toArray) os) base e (some ⟨g, 0, none⟩) m c ((d.take m).map ofL) := by
 rcases h.2.2 with ⟨hv, -⟩ | ⟨g', cap, cur, hv, hb, hg, hnc, hcm, hcs, htake⟩
 ·cases hv
 ·cases hv
  have hlt : g < w.heap.size := (Array.getElem?_eq_some_iff.1 hg).1
  have hl : ((d.take m).map ofL).length = m := by rw [List.length_map, List.length_take]; omega
  refine ⟨hl, by rw [flat_length flat_strv, hl], .inr ⟨g, c, Go.Sort.putCells encStr 0 d.toArray cur, rfl, hb, ?_, by omega, hcm, by simp [Go.Sort.putCells, hcs], ?_⟩⟩
  ·rw [putS_block _ _ _ _ _ hlt, hg]
   rfl
  ·rw [strv_map]
   apply List.ext_getElem?
   intro k
   by_cases hk : k < m
   ·have hkc : k < cur.size := by omega
    have hkd : k < d.length := by omega
    rw [List.getElem?_take, if_pos (by omega), List.getElem?_map, List.getElem?_map, List.getElem?_take, if_pos hk, Array.getElem?_toList, List.getElem?_eq_getElem hkd]
    simp only [Go.Sort.putCells, Array.getElem?_mapIdx, Array.getElem?_eq_getElem hkc, Option.map_some]
    rw [if_pos ⟨Nat.zero_le _, by simp; omega⟩, Nat.sub_zero, getElem!_pos _ k (by simpa using hkd)]
    simp [encStr, ofL]
   ·rw [List.getElem?_eq_none (by simp; omega), List.getElem?_eq_none (by simp; omega)]

theorem Own.holdsS (h : Own 1 strv w base e (some ⟨g, 0, none⟩) n c l) : Holds encStr w g 0 (l.map toL).toArray := by
 intro j hj
 have hj' : j < l.length := by simpa using hj
 have hs := h.sl flat_strv
 have hn := h.len
 obtain ⟨b', off', e', -, -, -, hc⟩ := hs.at_ (by omega)
 cases e'
 have := hc j l[j] (List.getElem?_eq_getElem hj') 0 (.string l[j]) rfl
 rw [getElem!_pos _ j hj]
 have he : encStr (l.map toL).toArray[j] = .string l[j] := by
  simp only [List.getElem_toArray, List.getElem_map]
  exact congrArg Value.string (ofL_toL _)
 rw [he]
 simpa using this
end

section
variable {w : World} {base n c : Nat} {A : Option Addr} {l : List ByteArray}

theorem sortL_calls (h : Own 1 strv w base 9 A n c l) (hn : n ≤ 1000000000) :
  Calls Tryz.prog 225 #[.slice A n c, .func (.func 226) #[] #[]] w fun e w' => e = .returned (.tuple #[]) ∧ Own 1 strv w' base 9 A n c (((l.map toL).mergeSort fun x y => !(ltL y x)).map ofL) ∧ w.grownBy w' (Value.slice A n c).ownBlock := by
 rcases h.2.2 with ⟨hv, hn0⟩ | ⟨g, cap, cur, hv, hb, hg, hnc, hcm, hcs, htake⟩
 ·cases hv
  have hl := List.eq_nil_of_length_eq_zero h.len
  subst hl
  refine (Tryz.slices_SortFunc_string_none none 0 _ w).mono ?_
  rintro e w' ⟨rfl, rfl⟩
  refine ⟨rfl, ?_, ⟨rfl, rfl, rfl, Nat.le_refl _, fun _ _ _ => rfl⟩⟩
  simpa using h
 ·cases hv
  have hlt : g < w.heap.size := (Array.getElem?_eq_some_iff.1 hg).1
  have eg : ∀ args w, (callFunc 226 args).run Tryz.prog w = .ok (.enter 226 args) w := enters_of Tryz.func226 (by kernel_rfl) rfl
  have hsz : (l.map toL).toArray.size = n := by simp [h.len]
  have hcmp : CmpReads Tryz.prog 226 #[] encStr cmpB g 0 (l.map toL).toArray.size w := fun m os dk hs x y => (compareLabels_calls (ofL x) (ofL y) _).mono fun e w' ⟨he, hw⟩ => ⟨by rw [he, toL_ofL, toL_ofL], 0, hw⟩
  have hq := Tryz.slices_SortFunc_string cmpB swoL 226 #[] g 0 c (l.map toL).toArray w eg hcmp.lays h.holdsS hlt (by rw [hsz]; omega) apartL
  rw [hsz] at hq
  refine hq.mono ?_
  rintro e w' ⟨rfl, q, os, rfl⟩
  have hd : ((l.map toL).mergeSort fun x y => !(ltL y x)).length = n := by rw [List.length_mergeSort, List.length_map, h.len]
  refine ⟨rfl, ?_, putS_grown _ _ _ _ _⟩
  have := h.putS (d := (l.map toL).mergeSort fun x y => !(ltL y x)) (q := q) (os := os) hd (Nat.le_refl n)
  rwa [List.take_of_length_le (by rw [hd]; exact Nat.le_refl _)] at this

theorem compactL_calls (h : Own 1 strv w base 9 A n c l) (hn : n ≤ 1000000000) :
  Calls Tryz.prog 227 #[.slice A n c] w fun e w' => e = .returned (.slice A (Lib.compact (l.map toL)).length c) ∧ Own 1 strv w' base 9 A (Lib.compact (l.map toL)).length c ((Lib.compact (l.map toL)).map ofL) ∧ w.grownBy w' (Value.slice A n c).ownBlock := by
 rcases h.2.2 with ⟨hv, hn0⟩ | ⟨g, cap, cur, hv, hb, hg, hnc, hcm, hcs, htake⟩
 ·cases hv
  have hl := List.eq_nil_of_length_eq_zero h.len
  subst hl
  refine (Tryz.slices_Compact_string_empty none 0 w).mono ?_
  rintro e w' ⟨rfl, rfl⟩
  exact ⟨rfl, h, ⟨rfl, rfl, rfl, Nat.le_refl _, fun _ _ _ => rfl⟩⟩
 ·cases hv
  have hlt : g < w.heap.size := (Array.getElem?_eq_some_iff.1 hg).1
  have hlen := compact_length_le (l.map toL)
  have hln : (l.map toL).length = n := by rw [List.length_map, h.len]
  have hq := Tryz.slices_Compact_string g 0 c (l.map toL) w h.holdsS (by omega) (by omega)
  rw [hln] at hq hlen
  refine hq.mono ?_
  rintro e w' ⟨rfl, q, rfl⟩
  have hd : (Lib.compact (l.map toL) ++ List.replicate (n - (Lib.compact (l.map toL)).length) []).length = n := by simp; omega
  have h1 := h.putS (d := Lib.compact (l.map toL) ++ List.replicate (n - (Lib.compact (l.map toL)).length) []) (q := q) (os := #[]) hd hlen
  have h2 := putS_grown w g q (Lib.compact (l.map toL) ++ List.replicate (n - (Lib.compact (l.map toL)).length) []) #[]
  rw [grow_empty] at h1 h2
  rw [List.take_left' rfl] at h1
  exact ⟨rfl, h1, h2⟩
end

theorem map_toL_ofL (d : List (List UInt8)) : (d.map ofL).map toL = d := by
 rw [List.map_map]
 exact (List.map_congr_left fun x _ => toL_ofL x).trans (List.map_id _)

theorem compactD_calls {w : World} {base n c : Nat} {A : Option Addr} {d : List (List UInt8)} (h : Own 1 strv w base 9 A n c (d.map ofL)) (hn : n ≤ 1000000000) :
  Calls Tryz.prog 227 #[.slice A n c] w fun e w' => e = .returned (.slice A (Lib.compact d).length c) ∧ Own 1 strv w' base 9 A (Lib.compact d).length c ((Lib.compact d).map ofL) ∧ w.grownBy w' (Value.slice A n c).ownBlock := by
 have := compactL_calls h hn
 rwa [map_toL_ofL] at this

end Go.Proofs.YtnhomkmfbngmgaaGreatDoor

namespace Go.Proofs.YtnhomkmfbngmgaaGreatDoor
open Go.ChangeShapes Go.WideShapes Go.ChangeAt Go.RowKit
set_option linter.unusedVariables false
set_option linter.unusedSimpArgs false

theorem Own.litL {α : Type} {f : α → List Value} {w : World} {g base : Nat} {e : TypeId} {x : α} {u : Value} (h : w.heap[g]? = some (.cells #[u] e (0, 0))) (hf : f x = [u]) (hb : base ≤ g) : Own 1 f w base e (some ⟨g, 0, none⟩) 1 1 [x] :=
 ⟨rfl, by simp [hf], .inr ⟨g, 1, #[u], rfl, hb, h, Nat.le_refl _, by unfold maxLen; omega, rfl, by simp [hf]⟩⟩
theorem strv_mapL (l : List ByteArray) : l.flatMap strv = l.map Value.string := by
 induction l with
 | nil => rfl
 | cons x l ih => rw [List.flatMap_cons, ih]; rfl
theorem Own.setS {w : World} {base g n c : Nat} {e : TypeId} {l : List ByteArray} (h : Own 1 strv w base e (some ⟨g, 0, none⟩) n c l) (k : Nat) (x : ByteArray) : Own 1 strv (w.setCell ⟨g, k, none⟩ (.string x)) base e (some ⟨g, 0, none⟩) n c (l.set k x) := by
 rcases h.2.2 with ⟨hv, -⟩ | ⟨g', cap, cur, hv, hb, hg, hnc, hcm, hcs, htake⟩
 ·cases hv
 ·cases hv
  refine ⟨by rw [List.length_set]; exact h.1, by rw [flat_length flat_strv, List.length_set]; have := h.1; omega, .inr ⟨g, c, cur.setIfInBounds k (.string x), rfl, hb, heap_setCell_same _ _ k _ _ _ hg, hnc, hcm, by simpa using hcs, ?_⟩⟩
  rw [Array.toList_setIfInBounds, List.take_set, htake, strv_mapL, strv_mapL, List.map_set]

theorem step_appL {P : Program} {α : Type} {size bytes : Nat} {f : α → List Value} {t e : TypeId} {w : World} {ops : Array Oper} {o : Oper} {a : Act} {K : Act → World → Prop} {Q : Exit → Act → World → Prop} {E : Prop} (hgd : o.guard = none) (s x : Operand)
  (ho : o.op = .call { callee := .builtin .append, args := #[s, x], argTypes := #[t, t] }) (hE : Elem P t e size bytes) (hf : Flat f size)
  {base n c : Nat} {A : Option Addr} {l : List α} (hs : a.eval s = .slice A n c) (hown : Own size f w base e A n c l)
  {B : Option Addr} {m d lo hi : Nat} {r : List α} (hx : a.eval x = .slice B m d) (hr : Sl size f w lo hi B m r) (hsz : (n + m) * bytes ≤ 140737488355328) (hbase : base ≤ w.heap.size)
  (h : ∀ A' c' w', Own size f w' base e A' (n + m) c' (l ++ r) → w.grownBy w' (Value.slice A n c).ownBlock → Below base w w' →
   ((Value.slice A' (n + m) c').ownBlock = (Value.slice A n c).ownBlock ∨ (Value.slice A' (n + m) c').ownBlock = some w.heap.size) → K (a.put o.dst (.slice A' (n + m) c')) w') :
  if Region.wanted o (yielded ops a.tmps) = true then Oper.wp P o a w K Q else E := by
 have hw : Region.wanted o (yielded ops a.tmps) = true := by simp [Region.wanted, hgd]
 rw [if_pos hw]
 obtain ⟨A', c', w', h1, h2, h3, h4⟩ := run_app w hE hf o.type hown (d := d) hr hsz hbase
 unfold Oper.wp execOp
 simp only [ho, resolve, invoke, builtin, Sem.run_bind, Sem.run_pure, Result.andThen_ok, List.map_toArray, List.map_cons, List.map_nil, hs, hx, h1]
 exact h _ _ _ h2 h3 ((Below.refl _ _).grown h3 hbase fun k hk => (hown.lt k hk).1) h4

end Go.Proofs.YtnhomkmfbngmgaaGreatDoor

namespace Go.Proofs.YtnhomkmfbngmgaaGreatDoor
open Go.ChangeShapes Go.WideShapes Go.ChangeAt Go.RowKit Go.Sort
set_option linter.unusedVariables false
set_option linter.unusedSimpArgs false

structure JoiI (out : List ByteArray) (l : List ByteArray) : Prop where
 head : out[0]? = some tauB
 rise : (out.map toL).Pairwise fun x y => ltL x y = true
 mem : ∀ x, x ∈ out ↔ x = tauB ∨ x ∈ l
theorem JoiI.start : JoiI [tauB] [] := ⟨rfl, by simp, fun x => by simp⟩
theorem JoiI.old {out l : List ByteArray} (h : JoiI out l) {s : ByteArray} (hs : s ∈ out) : JoiI out (l ++ [s]) :=
 ⟨h.head, h.rise, fun x => by
  rw [h.mem, List.mem_append, List.mem_singleton]
  constructor
  ·rintro (g | g)
   ·exact .inl g
   ·exact .inr (.inl g)
  ·rintro (g | g | rfl)
   ·exact .inl g
   ·exact .inr g
   ·exact (h.mem _).1 hs⟩
theorem JoiI.put {out l : List ByteArray} (h : JoiI out l) {s : ByteArray} (hs : ¬ s ∈ out) {k : Nat} (hk0 : 1 ≤ k) (hk : k ≤ out.length) (hlo : ∀ j, 1 ≤ j → j < k → ∀ x, out[j]? = some x → Op.bytesLess x.toList s.toList = true) (hhi : ∀ x, out[k]? = some x → Op.bytesLess x.toList s.toList = false) :
  JoiI (out.take k ++ s :: out.drop k) (l ++ [s]) := by
 have hst : s ≠ tauB := fun e => hs (e ▸ (h.mem tauB).2 (.inl rfl))
 have hsL : toL s ≠ tauBL := fun e => hst (toL_inj (e.trans toL_tau.symm))
 have hne : ∀ x ∈ out, toL x ≠ toL s := fun x hx e => hs (toL_inj e ▸ hx)
 have hlow : ∀ x ∈ out.take k, ltL (toL x) (toL s) = true := fun x hx => by
  obtain ⟨j, hj⟩ := List.getElem?_of_mem hx
  rw [List.getElem?_take] at hj
  split at hj
  ·rename_i hjk
   have hxo := List.mem_of_getElem? hj
   rw [ltL_iff]
   refine ⟨hne x hxo, ?_⟩
   by_cases h0 : j = 0
   ·subst h0
    rw [h.head] at hj
    have := Option.some.inj hj
    subst this
    exact .inl toL_tau
   ·have := hlo j (by omega) hjk x hj
    rw [toL_eq, toL_eq] at this
    exact .inr ⟨hsL, this⟩
  ·cases hj
 have hhigh : ∀ x ∈ out.drop k, ltL (toL s) (toL x) = true := fun x hx => by
  have hkl : k < out.length := by
   rcases Nat.lt_or_ge k out.length with h1 | h1
   ·exact h1
   ·rw [List.drop_eq_nil_of_le h1] at hx; cases hx
  have hy : out[k]? = some out[k] := List.getElem?_eq_getElem _
  have h1 : ltL (toL s) (toL out[k]) = true := by
   rcases ltL_total (toL s) (toL out[k]) with g | g | g
   ·exact g
   ·exact absurd g.symm (hne _ (List.mem_of_getElem? hy))
   ·rw [ltL_iff] at g
    have h2 := hhi _ hy
    rw [toL_eq, toL_eq] at h2
    rcases g.2 with g2 | g2
    ·have h3 : out[k] = tauB := toL_inj (g2.trans toL_tau.symm)
     have h4 := List.pairwise_iff_getElem.1 h.rise 0 k (by rw [List.length_map]; omega) (by rw [List.length_map]; omega) (by omega)
     rw [List.getElem_map, List.getElem_map, h3] at h4
     have h5 := h.head
     rw [List.getElem?_eq_getElem (by omega)] at h5
     rw [Option.some.inj h5, ltL_irr] at h4
     cases h4
    ·rw [h2] at g2
     cases g2.2
  rw [List.drop_eq_getElem_cons hkl] at hx
  rcases List.mem_cons.1 hx with rfl | hx
  ·exact h1
  ·obtain ⟨j, hj⟩ := List.getElem?_of_mem hx
   rw [List.getElem?_drop] at hj
   have hjl := (List.getElem?_eq_some_iff.1 hj).1
   have h4 := List.pairwise_iff_getElem.1 h.rise k (k + 1 + j) (by rw [List.length_map]; omega) (by rw [List.length_map]; omega) (by omega)
   rw [List.getElem_map, List.getElem_map, (List.getElem?_eq_some_iff.1 hj).2] at h4
   exact ltL_trans h1 h4
 refine ⟨?_, ?_, fun x => ?_⟩
 ·rw [List.getElem?_append_left (by rw [List.length_take]; omega), List.getElem?_take, if_pos (by omega)]
  exact h.head
 ·rw [List.map_append, List.map_cons, List.pairwise_append]
  have hr := h.rise
  rw [← List.take_append_drop k out, List.map_append, List.pairwise_append] at hr
  refine ⟨hr.1, List.pairwise_cons.2 ⟨fun y hy => ?_, hr.2.1⟩, fun a ha b hb => ?_⟩
  ·obtain ⟨x, hx, rfl⟩ := List.mem_map.1 hy
   exact hhigh x hx
  ·obtain ⟨x, hx, rfl⟩ := List.mem_map.1 ha
   rcases List.mem_cons.1 hb with rfl | hb
   ·exact hlow x hx
   ·exact hr.2.2 _ ha _ hb
 ·have hm := h.mem x
  rw [← List.take_append_drop k out, List.mem_append] at hm
  rw [List.mem_append, List.mem_cons, List.mem_append, List.mem_singleton]
  constructor
  ·rintro (g | g | g)
   ·rcases hm.1 (.inl g) with g | g
    ·exact .inl g
    ·exact .inr (.inl g)
   ·exact .inr (.inr g)
   ·rcases hm.1 (.inr g) with g | g
    ·exact .inl g
    ·exact .inr (.inl g)
  ·rintro (g | g | g)
   ·rcases hm.2 (.inl g) with g | g
    ·exact .inl g
    ·exact .inr (.inr g)
   ·rcases hm.2 (.inr g) with g | g
    ·exact .inl g
    ·exact .inr (.inr g)
   ·exact .inr (.inl g)
def joiF (l : List ByteArray) : List ByteArray := (Lib.compact (((tauB :: l).map toL).mergeSort fun x y => !(ltL y x))).map ofL
theorem map_toL_ofL2 (d : List (List UInt8)) : (d.map ofL).map toL = d := by
 rw [List.map_map]
 exact (List.map_congr_left fun x _ => toL_ofL x).trans (List.map_id _)
theorem JoiI.done {out l : List ByteArray} (h : JoiI out l) : out = joiF l := by
 have h1 : out.map toL = Lib.compact (((tauB :: l).map toL).mergeSort fun x y => !(ltL y x)) := by
  refine rise_ext (r := fun x y => ltL x y = true) (fun a g => by rw [ltL_irr] at g; cases g) (fun a b g k => ltL_asym g k) h.rise (compact_rise (sortL_rise _)) fun y => ?_
  rw [compactL_mem, List.mem_mergeSort, List.mem_map, List.mem_map]
  constructor
  ·rintro ⟨x, hx, rfl⟩
   exact ⟨x, by rw [List.mem_cons]; exact (h.mem x).1 hx, rfl⟩
  ·rintro ⟨x, hx, rfl⟩
   exact ⟨x, by rw [List.mem_cons] at hx; exact (h.mem x).2 hx, rfl⟩
 unfold joiF
 rw [← h1, List.map_map]
 exact ((List.map_congr_left fun x _ => ofL_toL x).trans (List.map_id _)).symm
theorem JoiI.len {out l : List ByteArray} (h : JoiI out l) : out.length ≤ l.length + 1 := by
 rw [h.done]
 unfold joiF
 rw [List.length_map]
 refine Nat.le_trans (Go.Lib.compact_length_le _) ?_
 rw [List.length_mergeSort, List.length_map, List.length_cons]
 exact Nat.le_refl _

theorem any_of_mem {l : List ByteArray} {s : ByteArray} : anyL l s = true ↔ s ∈ l := by
 unfold anyL
 rw [List.any_eq_true]
 exact ⟨fun ⟨x, h, e⟩ => of_decide_eq_true e ▸ h, fun h => ⟨s, h, decide_eq_true rfl⟩⟩
theorem Own.ne {w : World} {base e n c : Nat} {A : Option Addr} {l : List ByteArray} (h : Own 1 strv w base e A n c l) (hn : 0 < n) : ∃ g, A = some ⟨g, 0, none⟩ ∧ base ≤ g := by
 rcases h.2.2 with ⟨-, hv⟩ | ⟨g, cap, cur, hv, hb, -⟩
 ·omega
 ·cases hv
  exact ⟨g, rfl, hb⟩
theorem shift_set {out : List ByteArray} {i : Nat} {z x : ByteArray} (hi : i < out.length) (hx : out[i]? = some x) : (out.take (i + 1) ++ z :: out.drop (i + 1)).set (i + 1) x = out.take i ++ x :: out.drop i := by
 have h1 : out.drop i = x :: out.drop (i + 1) := by rw [List.drop_eq_getElem_cons hi]; congr 1; exact Option.some.inj ((List.getElem?_eq_getElem hi).symm.trans hx)
 rw [List.set_append_right _ _ (by rw [List.length_take]; omega), List.length_take, Nat.min_eq_left (by omega), Nat.sub_self, List.set_cons_zero, List.take_add_one, hx, h1]
 simp
theorem shift_end {out : List ByteArray} {i : Nat} {z x : ByteArray} (hi : i ≤ out.length) : (out.take i ++ z :: out.drop i).set i x = out.take i ++ x :: out.drop i := by
 rw [List.set_append_right _ _ (by rw [List.length_take]; omega), List.length_take, Nat.min_eq_left (by omega), Nat.sub_self, List.set_cons_zero]
theorem shift_get {out : List ByteArray} {i : Nat} {z x : ByteArray} (hi : i < out.length) (hx : out[i]? = some x) : (out.take (i + 1) ++ z :: out.drop (i + 1))[i]? = some x := by
 rw [List.getElem?_append_left (by rw [List.length_take]; omega), List.getElem?_take, if_pos (by omega), hx]

set_option maxRecDepth 100000 in
set_option maxHeartbeats 3200000 in
theorem l11Join_calls (A : Option Addr) (n c : Nat) (l : List ByteArray) (w : World) (lo hi : Nat) (h : SlS w lo hi A n l) (hh : hi ≤ w.heap.size) (hn : n ≤ 100000) :
  Calls Tryz.prog 146 #[.slice A n c] w fun e w' => ∃ A' n' c', e = .returned (.slice A' n' c') ∧ Own 1 strv w' w.heap.size 9 A' n' c' (joiF l) ∧ Below w.heap.size w w' := by
 have hE := hide elem_str
 have hlen := hide h.len
 have k1 := heap_alloc_new w (.cells #[.string tauB] 9)
 have hst : Hid (Own 1 strv (w.alloc (.cells #[.string tauB] 9)) w.heap.size 9 (some ⟨w.heap.size, 0, none⟩) 1 1 [tauB]) := Own.litL k1 rfl (Nat.le_refl _)
 have hb0 := hide ((Below.refl w.heap.size w).alloc (Nat.le_refl _) (.cells #[.string tauB] 9))
 replace h := hide h
 clear k1
 go_enter Tryz.func146, Tryz.ntmps146
 go_upto_region 2 with fail
 go_upto_region 3 with fail
 go_loopg [3, 4] n (fun J o i wr => ∃ (k m c : Nat) (A : Option Addr) (out : List ByteArray), k ≤ n ∧ o = .slice A m c ∧ i = .int .i64 (k : Nat) ∧ Hid (Own 1 strv wr w.heap.size 9 A m c out) ∧ Hid (JoiI out (l.take k)) ∧ Hid (Below w.heap.size w wr) ∧ Hid (n - k ≤ J))
 case atStart => exact ⟨0, 1, 1, _, [tauB], Nat.zero_le _, rfl, rfl, hst.out, JoiI.start, hb0.out, by show _ ≤ _; omega⟩
 case round =>
  clear hst hb0
  obtain ⟨k, m, c2, A2, out, hk, rfl, rfl, hown, hj, hb, hG⟩ := hrel
  by_cases hlt : k < n
  ·obtain ⟨J2, rfl⟩ : ∃ G2, gk = G2 + 1 := ⟨gk - 1, by have := hG.out; omega⟩
   have hJ2 : Hid (n - (k + 1) ≤ J2) := by have := hG.out; show _ ≤ _; omega
   obtain ⟨b, off, s, rfl, g1, g2, g3, hx, c0, -⟩ := SlS.get h.out hlt
   have hbb := hb.out
   have c00 := hide c0
   have z0 := (hbb.cell (p := ⟨b, off + k, none⟩) g3).trans c0
   have hml := hown.out.len
   have hm1 : 1 ≤ m ∧ m ≤ k + 1 := by
    have h1 := hj.out.len
    have h2 := hj.out.head
    rw [List.length_take] at h1
    have h3 := (List.getElem?_eq_some_iff.1 h2).1
    omega
   obtain ⟨hm0, hm1⟩ := hm1
   have q := l11Find_calls s A2 m c2 out wr _ _ (hown.out.sl flat_strv) (by omega)
   have htk : l.take (k + 1) = l.take k ++ [s] := by rw [List.take_add_one, hx]; rfl
   have hI0 : (0 : Int) ≤ (k : Int) := by omega
   have hI1 : (k : Int) < (n : Int) := by omega
   clear c0 hbb hG
   by_cases hin : s ∈ out
   ·have hj2 : Hid (JoiI out (l.take (k + 1))) := by show JoiI _ _; rw [htk]; exact hj.out.old hin
    replace q := hide (q.mono (R' := fun e w' => ∃ i : Nat, e = .returned (.int .i64 (i : Int)) ∧ wr = w') (by
     rintro e w' ⟨i, rfl, hf, rfl⟩
     rcases hf with ⟨-, h2⟩ | ⟨k, rfl, -, -⟩
     ·rw [any_of_mem.2 hin] at h2; cases h2
     ·exact ⟨k, rfl, rfl⟩))
    clear hj hx htk hin hml
    go_wp2_with (first | (go_at_call 174; (with_reducible refine q.out.mono ?_); rintro e w5 ⟨i, rfl, rfl⟩; have hge : (0 : Int) ≤ (i : Int) := Int.natCast_nonneg _))
    go_roundg J2
    case measure => omega
    case rel => exact ⟨k + 1, m, c2, A2, out, by omega, rfl, by go_num, hown, hj2, hb, hJ2⟩
   ·replace q := hide (q.mono (R' := fun e w' => e = .returned (.int .i64 (-1)) ∧ wr = w') (by
     rintro e w' ⟨i, rfl, hf, rfl⟩
     rcases hf with ⟨rfl, h2⟩ | ⟨k, rfl, -, h2⟩
     ·exact ⟨rfl, rfl⟩
     ·exact absurd (any_of_mem.1 h2) hin))
    have hna : Hid (∀ out', JoiI out' (l.take k ++ [s]) → JoiI out' (l.take (k + 1))) := fun out' h => by rw [htk]; exact h
    have hzw := hb.out.size
    clear hx htk
    go_upto_region 6 with (first | (go_at_call 174; (with_reducible refine q.out.mono ?_); rintro e w5 ⟨rfl, rfl⟩))
    go_upto_region 7 with fail
    obtain ⟨wO, rfl⟩ : ∃ wO : World, wO = wr := ⟨_, rfl⟩
    go_loopw [5] (fun i wr => ∃ t : Nat, 1 ≤ t ∧ t ≤ m ∧ i = .int .i64 (t : Nat) ∧ Hid (∀ j, 1 ≤ j → j < t → ∀ x, out[j]? = some x → Op.bytesLess x.toList s.toList = true) ∧ Hid (Own 1 strv wr w.heap.size 9 A2 m c2 out) ∧ Hid (Below w.heap.size w wr)) (fun i _ => m - (intOf i).toNat)
    case atStart => exact ⟨1, Nat.le_refl _, by omega, rfl, fun j h1 h2 => by omega, hown.out, hb.out⟩
    case round =>
     clear hown hb q z0
     obtain ⟨t, ht1, htm, rfl, hlo, hown, hb⟩ := hrel
     have z0 := (hb.out.cell (p := ⟨b, off + k, none⟩) g3).trans c00.out
     have t0 : (0 : Int) ≤ (t : Int) := by omega
     by_cases hgo : t < m ∧ ∃ x, out[t]? = some x ∧ Op.bytesLess x.toList s.toList = true
     ·obtain ⟨htl, x, hx, hxs⟩ := hgo
      have t1 : (t : Int) < (m : Int) := by omega
      have f1 : decide ((t : Int) < (m : Int)) = true := decide_eq_true t1
      obtain ⟨ga, oa, x', rfl, -, -, -, hx', cx, -⟩ := SlS.get (hown.out.sl flat_strv) htl
      rw [hx] at hx'
      injection hx' with hx'
      subst hx'
      have hlo2 : Hid (∀ j, 1 ≤ j → j < t + 1 → ∀ x, out[j]? = some x → Op.bytesLess x.toList s.toList = true) := fun j h1 h2 y hy => by
       by_cases e : j = t
       ·subst e; rw [hx] at hy; injection hy with hy; rw [← hy]; exact hxs
       ·exact hlo.out j h1 (by omega) y hy
      clear hx hlo
      go_wp2_with fail
      go_quiet (fail)
      go_wp2_with fail
      go_roundw
      case rel => exact ⟨t + 1, by omega, by omega, by go_num, hlo2.out, hown.out.keep fun _ _ => rfl, hb.out.trans ((below_drewN _ nq).mono hb.out.size)⟩
      case measure => simp [intOf]; omega
     ·have hput := hide (hj.out.put (s := s) hin ht1 (by omega) hlo.out (fun x hx => by
       have h3 := (List.getElem?_eq_some_iff.1 hx).1
       rw [Bool.eq_false_iff]
       exact fun h4 => hgo ⟨by omega, x, hx, h4⟩))
      have hstop : t = m ∨ ∃ x, t < m ∧ out[t]? = some x ∧ Op.bytesLess x.toList s.toList = false := by
       by_cases e : t = m
       ·exact .inl e
       ·obtain ⟨x, hx⟩ : ∃ x, out[t]? = some x := ⟨_, List.getElem?_eq_getElem (by omega)⟩
        exact .inr ⟨x, by omega, hx, Bool.eq_false_iff.2 fun h4 => hgo ⟨by omega, x, hx, h4⟩⟩
      clear hgo hlo
      have hAB : Hid (t < m → ∀ ga oa, A2 = some ⟨ga, oa, none⟩ → ∀ x, out[t]? = some x → wr.cell? ⟨ga, oa + t, none⟩ = some (.string x)) := fun h1 ga oa eA x hx => by
       obtain ⟨ga', oa', x', e', -, -, -, hx', cx, -⟩ := SlS.get (hown.out.sl flat_strv) h1
       rw [eA] at e'
       cases e'
       rw [hx] at hx'
       injection hx' with hx'
       rw [hx']; exact cx
      obtain ⟨gA, rfl, -⟩ := hown.out.ne (by omega)
      rcases hstop with hst | ⟨x, htl, hx, hxs⟩
      focus
       have t1 : ¬ (t : Int) < (m : Int) := by omega
       have f1 : decide ((t : Int) < (m : Int)) = false := decide_eq_false t1
       have f2 : decide (t < m) = false := decide_eq_false (by omega)
       have f3 : ¬ t < m := by omega
       clear hAB hst
       go_wp2_with fail
       go_quiet (fail)
       go_upto_region 9 with fail
       clear t1 f1 f2 f3
      rotate_left
      focus
       have t1 : (t : Int) < (m : Int) := by omega
       have f1 : decide ((t : Int) < (m : Int)) = true := decide_eq_true t1
       have f2 : decide (t < m) = true := decide_eq_true htl
       have cx := hAB.out htl gA 0 rfl x hx
       rw [Nat.zero_add] at cx
       clear hAB hx
       go_wp2_with fail
       go_quiet (fail)
       go_upto_region 9 with fail
       clear hxs cx htl t1 f1 f2
      all_goals
       obtain ⟨wq, hwq⟩ : ∃ wq, wq = wr.drewN nq := ⟨_, rfl⟩
       have hownq : Hid (Own 1 strv wq w.heap.size 9 (some ⟨gA, 0, none⟩) m c2 out) := by rw [hwq]; exact hown.out.keep fun _ _ => rfl
       have hbq : Hid (Below w.heap.size w wq) := by rw [hwq]; exact hb.out.trans ((below_drewN _ nq).mono hb.out.size)
       rw [← hwq]
       replace hwq := hide hwq
       have hzq := hbq.out.size
       have hza : w.heap.size ≤ (wq.alloc (.cells #[.string ⟨#[]⟩] 9)).heap.size := by rw [World.size_alloc]; omega
       have hba := hide (hbq.out.alloc hzq (.cells #[.string ⟨#[]⟩] 9))
       clear hown hb
       go_upto_region 10 with (first | (at_builtin; (with_reducible refine wpList_app rfl (.tmp 38) (.tmp 39) rfl hE.out flat_strv rfl (hownq.out.alloc _) rfl (Sl.lit1' wq 9 (⟨#[]⟩ : ByteArray) _ rfl 1 _ ?d0) ?d1 hza ?_); rotate_right; intro A6 c6 w6 hown6 hgr6 hb6 hat6))
       case d0 => rfl
       case d1 => omega
       obtain ⟨g6, rfl, hg6⟩ := hown6.ne (by omega)
       have hb7 := hide (hba.out.trans hb6)
       have hS0 : Hid (Own 1 strv w6 w.heap.size 9 (some ⟨g6, 0, none⟩) (m + 1) c6 (out.take m ++ (⟨#[]⟩ : ByteArray) :: out.drop m)) := by
        show Own _ _ _ _ _ _ _ _ _
        rw [List.take_of_length_le (by omega), List.drop_eq_nil_of_le (by omega)]
        exact hown6
       clear hown6 hgr6 hb6 hat6 hownq hbq hba hza
       go_wp2_with fail
       obtain ⟨wP, rfl⟩ : ∃ wP : World, wP = wr := ⟨_, rfl⟩
       go_loopw [6] (fun i wr => ∃ (q : Nat) (y : ByteArray), t ≤ q ∧ q ≤ m ∧ i = .int .i64 (q : Nat) ∧ Hid (Own 1 strv wr w.heap.size 9 (some ⟨g6, 0, none⟩) (m + 1) c6 (out.take q ++ y :: out.drop q)) ∧ Hid (Below w.heap.size w wr)) (fun i _ => (intOf i).toNat)
       case atStart => exact ⟨m, _, htm, Nat.le_refl _, by go_num, hS0.out, hb7.out⟩
       case round =>
        clear hS0 hb7
        obtain ⟨q, y, hq1, hq2, rfl, hS, hb⟩ := hrel
        by_cases hqt : t < q
        ·have q0 : (t : Int) < (q : Int) := by omega
         obtain ⟨q', rfl⟩ : ∃ q', q = q' + 1 := ⟨q - 1, by omega⟩
         have q1 : (0 : Int) ≤ (q' : Int) := by omega
         have q2 : (q' : Int) < (m : Int) + 1 := by omega
         have q3 : (q' : Int) + 1 < (m : Int) + 1 := by omega
         have q4 : (0 : Int) ≤ (q' : Int) + 1 := by omega
         obtain ⟨x1, hx1⟩ : ∃ x, out[q']? = some x := ⟨_, List.getElem?_eq_getElem (by omega)⟩
         obtain ⟨ga, oa, xa, ea, -, -, -, hxa, ca, -⟩ := SlS.get (hS.out.sl flat_strv) (show q' < m + 1 by omega)
         cases ea
         rw [Nat.zero_add] at ca
         rw [shift_get (by omega) hx1] at hxa
         injection hxa with hxa
         subst hxa
         obtain ⟨gb, ob, xb, eb, -, -, -, -, cb, fb⟩ := SlS.get (hS.out.sl flat_strv) (show q' + 1 < m + 1 by omega)
         cases eb
         rw [Nat.zero_add] at cb fb
         have hset := hS.out.setS (q' + 1) x1
         rw [shift_set (by omega) hx1] at hset
         replace hset := hide hset
         have hbs := hide (hb.out.setCell (p := ⟨g6, q' + 1, none⟩) hg6 (.string x1))
         clear hx1
         go_wp2_with fail
         go_roundw
         case rel => exact ⟨q', x1, by omega, by omega, by go_num, hset.out, hbs.out⟩
         case measure => simp [intOf]
        ·obtain rfl : q = t := by omega
         have q0 : ¬ (q : Int) < (q : Int) := by omega
         have q1 : (0 : Int) ≤ (q : Int) := by omega
         have q2 : (q : Int) < ((m + 1 : Nat) : Int) := by omega
         have z1 := (hb.out.cell (p := ⟨b, off + k, none⟩) g3).trans c00.out
         obtain ⟨g6', o6, x6, e6, -, -, -, -, c6', f6⟩ := SlS.get (hS.out.sl flat_strv) (show q < m + 1 by omega)
         cases e6
         rw [Nat.zero_add] at c6' f6
         have hset := hide (hS.out.setS q s)
         have hfin := shift_end (z := y) (x := s) (show q ≤ out.length by omega)
         rw [hfin] at hset
         have hbs := hide (hb.out.setCell (p := ⟨g6, q, none⟩) hg6 (.string s))
         have hJ := hide (hna.out _ hput.out)
         clear hfin
         go_wp2_with fail
         go_roundg J2
         case measure => omega
         case rel => exact ⟨k + 1, m + 1, c6, _, _, by omega, rfl, by go_num, hset.out, hJ.out, hbs.out, hJ2.out⟩
  ·obtain rfl : k = n := by omega
   have hkk : ¬ (k : Int) < (k : Int) := by omega
   have hdone : Hid (out = joiF l) := by
    have := hj.out.done
    rw [List.take_of_length_le (by rw [hlen.out]; exact Nat.le_refl _)] at this
    exact this
   clear hj
   go_wp2_with fail
   go_ret
   exact ⟨A2, m, c2, rfl, by rw [← hdone.out]; exact hown.out, hb.out⟩

end Go.Proofs.YtnhomkmfbngmgaaGreatDoor

namespace Go.Proofs.YtnhomkmfbngmgaaGreatDoor
set_option linter.unusedVariables false

section
variable (src : Nat → Prop) (arc : Nat → Nat → Prop)
def lay : Nat → Nat → Prop
 | 0, k => src k
 | n + 1, k => lay n k ∨ ∃ a, lay n a ∧ arc a k
theorem lay_mono {n m k : Nat} (h : lay src arc n k) (hm : n ≤ m) : lay src arc m k := by
 induction m with
 | zero =>
  have : n = 0 := by omega
  subst this; exact h
 | succ m ih =>
  rcases Nat.lt_or_ge m n with h1 | h1
  ·have : n = m + 1 := by omega
   subst this; exact h
  ·exact .inl (ih h1)
def least (d k : Nat) : Prop := lay src arc d k ∧ ∀ m, m < d → ¬ lay src arc m k
theorem least_uniq {d e k : Nat} (h : least src arc d k) (g : least src arc e k) : d = e := by
 rcases Nat.lt_trichotomy d e with h1 | h1 | h1
 ·exact absurd h.1 (g.2 d h1)
 ·exact h1
 ·exact absurd g.1 (h.2 e h1)
theorem least_of {n k : Nat} (h : lay src arc n k) : ∃ d, d ≤ n ∧ least src arc d k := by
 induction n with
 | zero => exact ⟨0, Nat.le_refl _, h, fun m hm => absurd hm (by omega)⟩
 | succ n ih =>
  by_cases h1 : lay src arc n k
  ·obtain ⟨d, h2, h3⟩ := ih h1
   exact ⟨d, by omega, h3⟩
  ·refine ⟨n + 1, Nat.le_refl _, h, fun m hm hl => h1 (lay_mono src arc hl (by omega))⟩
theorem least_pred {n k : Nat} (h : least src arc (n + 1) k) : ∃ a, least src arc n a ∧ arc a k := by
 obtain ⟨h1, h2⟩ := h
 rcases h1 with h1 | ⟨a, ha, hk⟩
 ·exact absurd h1 (h2 n (by omega))
 ·refine ⟨a, ⟨ha, fun m hm hl => ?_⟩, hk⟩
  exact h2 (m + 1) (by omega) (.inr ⟨a, hl, hk⟩)

def DistIs (n : Nat) (out : List Int) : Prop := out.length = n ∧ ∀ (k : Nat) (x : Int), out[k]? = some x → (0 ≤ x → least src arc x.toNat k) ∧ (x < 0 → x = -1 ∧ ∀ m, ¬ lay src arc m k)
theorem DistIs.uniq {n : Nat} {a b : List Int} (h : DistIs src arc n a) (g : DistIs src arc n b) : a = b := by
 apply List.ext_getElem?
 intro k
 by_cases hk : k < n
 ·have ha : a[k]? = some (a[k]'(by rw [h.1]; exact hk)) := List.getElem?_eq_getElem _
  have hb : b[k]? = some (b[k]'(by rw [g.1]; exact hk)) := List.getElem?_eq_getElem _
  rw [ha, hb]
  generalize (a[k]'(by rw [h.1]; exact hk)) = x at *
  generalize (b[k]'(by rw [g.1]; exact hk)) = y at *
  obtain ⟨h1, h2⟩ := h.2 k x ha
  obtain ⟨g1, g2⟩ := g.2 k y hb
  by_cases hx : 0 ≤ x
  ·by_cases hy : 0 ≤ y
   ·have := least_uniq src arc (h1 hx) (g1 hy)
    congr 1
    omega
   ·exact absurd (h1 hx).1 ((g2 (by omega)).2 _)
  ·by_cases hy : 0 ≤ y
   ·exact absurd (g1 hy).1 ((h2 (by omega)).2 _)
   ·rw [(h2 (by omega)).1, (g2 (by omega)).1]
 ·rw [List.getElem?_eq_none (by rw [h.1]; omega), List.getElem?_eq_none (by rw [g.1]; omega)]

def RoundIs (N n : Nat) (out : List Int) : Prop := out.length = N ∧ ∀ (k : Nat) (x : Int), out[k]? = some x → (0 ≤ x → least src arc x.toNat k ∧ x ≤ n) ∧ (x < 0 → x = -1 ∧ ¬ lay src arc n k)
theorem RoundIs.start {N : Nat} {out : List Int} (hl : out.length = N) (h : ∀ (k : Nat) (x : Int), out[k]? = some x → (x = 0 ∧ src k) ∨ (x = -1 ∧ ¬ src k)) : RoundIs src arc N 0 out := by
 refine ⟨hl, fun k x hx => ?_⟩
 rcases h k x hx with ⟨rfl, hs⟩ | ⟨rfl, hs⟩
 ·exact ⟨fun _ => ⟨⟨hs, fun m hm => absurd hm (by omega)⟩, by omega⟩, fun h => absurd h (by omega)⟩
 ·exact ⟨fun h => absurd h (by omega), fun _ => ⟨rfl, hs⟩⟩
structure QueIs (N : Nat) (out : List Int) (todo : List Nat) : Prop where
 len : out.length = N
 exact_ : ∀ (k : Nat) (x : Int), out[k]? = some x → (0 ≤ x → least src arc x.toNat k) ∧ (x < 0 → x = -1)
 src_ : ∀ k, src k → ∃ x : Int, out[k]? = some x ∧ 0 ≤ x
 todo_ : ∀ k, k ∈ todo → ∃ x : Int, out[k]? = some x ∧ 0 ≤ x
 done_ : ∀ (a k : Nat) (x : Int), out[a]? = some x → 0 ≤ x → a ∉ todo → arc a k → ∃ y : Int, out[k]? = some y ∧ 0 ≤ y
 sorted : todo.Pairwise fun a b => ∀ (x y : Int), out[a]? = some x → out[b]? = some y → x ≤ y
 near : ∀ a, todo.head? = some a → ∀ b, b ∈ todo → ∀ (x y : Int), out[a]? = some x → out[b]? = some y → y ≤ x + 1
theorem QueIs.done {N : Nat} {out : List Int} (h : QueIs src arc N out []) (hin : ∀ a k, arc a k → a < N ∧ k < N) (hsrc : ∀ k, src k → k < N) : DistIs src arc N out := by
 refine ⟨h.len, fun k x hx => ⟨(h.exact_ k x hx).1, fun h0 => ⟨(h.exact_ k x hx).2 h0, ?_⟩⟩⟩
 have key : ∀ m k, lay src arc m k → ∃ y : Int, out[k]? = some y ∧ 0 ≤ y := by
  intro m
  induction m with
  | zero => exact fun k hk => h.src_ k hk
  | succ m ih =>
   intro k hk
   rcases hk with hk | ⟨a, ha, hak⟩
   ·exact ih k hk
   ·obtain ⟨y, hy, hy0⟩ := ih a ha
    exact h.done_ a k y hy hy0 (by simp) hak
 intro m hm
 obtain ⟨y, hy, hy0⟩ := key m k hm
 rw [hx] at hy
 cases hy
 omega
theorem QueIs.found {N : Nat} {out : List Int} {k : Nat} {todo : List Nat} (h : QueIs src arc N out (k :: todo)) {m : Int} (hm : out[k]? = some m) : ∀ (d b : Nat), (d : Int) ≤ m → least src arc d b → ∃ y : Int, out[b]? = some y ∧ 0 ≤ y := by
 intro d
 induction d with
 | zero => exact fun b _ hb => h.src_ b hb.1
 | succ d ih =>
  intro b hd hb
  obtain ⟨a, ha, hab⟩ := least_pred src arc hb
  obtain ⟨y, hy, hy0⟩ := ih a (by omega) ha
  have hyd : y.toNat = d := least_uniq src arc ((h.exact_ a y hy).1 hy0) ha
  refine h.done_ a b y hy hy0 ?_ hab
  intro hin
  rcases List.mem_cons.1 hin with rfl | hin
  ·rw [hm] at hy
   cases hy
   omega
  ·have := (List.pairwise_cons.1 h.sorted).1 a hin m y hm hy
   omega
theorem QueIs.add {N : Nat} {out : List Int} {k b : Nat} {todo : List Nat} (h : QueIs src arc N out (k :: todo)) {m x : Int} (hm : out[k]? = some m) (hb : out[b]? = some x) (hx : x < 0) (hkb : arc k b) :
  QueIs src arc N (out.set b (m + 1)) (k :: (todo ++ [b])) := by
 have hm0 : 0 ≤ m := by
  obtain ⟨y, hy, hy0⟩ := h.todo_ k (by simp)
  rw [hm] at hy
  cases hy
  exact hy0
 have hbl : b < out.length := (List.getElem?_eq_some_iff.1 hb).1
 have hne : ∀ {j : Nat} {y : Int}, out[j]? = some y → 0 ≤ y → j ≠ b := by
  rintro j y hy hy0 rfl
  rw [hb] at hy
  cases hy
  omega
 have hkeep : ∀ {j : Nat} {y : Int}, out[j]? = some y → 0 ≤ y → (out.set b (m + 1))[j]? = some y := fun hy hy0 => by
  rw [List.getElem?_set_ne (fun e => hne hy hy0 e.symm)]
  exact hy
 have hself : (out.set b (m + 1))[b]? = some (m + 1) := List.getElem?_set_self hbl
 have hlay : least src arc (m + 1).toNat b := by
  have hk := (h.exact_ k m hm).1 hm0
  rw [show (m + 1).toNat = m.toNat + 1 by omega]
  refine ⟨.inr ⟨k, hk.1, hkb⟩, fun j hj hl => ?_⟩
  obtain ⟨d, hd, hld⟩ := least_of src arc hl
  obtain ⟨y, hy, hy0⟩ := h.found src arc hm d b (by omega) hld
  rw [hb] at hy
  cases hy
  omega
 have hold : ∀ {j : Nat} {y : Int}, j ∈ k :: todo → (out.set b (m + 1))[j]? = some y → out[j]? = some y := fun hj hy => by
  obtain ⟨z, hz, hz0⟩ := h.todo_ _ hj
  rw [hkeep hz hz0] at hy
  rw [hz, hy]
 have hmb : ∀ j ∈ k :: todo, ∀ y, out[j]? = some y → y ≤ m + 1 := fun j hj y hy => h.near k rfl j hj m y hm hy
 refine ⟨by rw [List.length_set]; exact h.len, fun j y hy => ?_, fun j hj => ?_, fun j hj => ?_, fun a j y hy hy0 ha haj => ?_, ?_, ?_⟩
 ·by_cases e : j = b
  ·subst e
   rw [hself] at hy
   cases hy
   exact ⟨fun _ => hlay, fun h0 => absurd h0 (by omega)⟩
  ·rw [List.getElem?_set_ne (fun e' => e e'.symm)] at hy
   exact h.exact_ j y hy
 ·obtain ⟨y, hy, hy0⟩ := h.src_ j hj
  exact ⟨y, hkeep hy hy0, hy0⟩
 ·rw [← List.cons_append, List.mem_append] at hj
  rcases hj with hj | hj
  ·obtain ⟨y, hy, hy0⟩ := h.todo_ j hj
   exact ⟨y, hkeep hy hy0, hy0⟩
  ·rw [List.mem_singleton.1 hj]
   exact ⟨_, hself, by omega⟩
 ·have hab : a ≠ b := by
   rintro rfl
   exact ha (by simp)
  rw [List.getElem?_set_ne (fun e => hab e.symm)] at hy
  obtain ⟨z, hz, hz0⟩ := h.done_ a j y hy hy0 (fun hin => ha (by rw [← List.cons_append, List.mem_append]; exact .inl hin)) haj
  exact ⟨z, hkeep hz hz0, hz0⟩
 ·rw [← List.cons_append, List.pairwise_append]
  refine ⟨?_, by simp, fun a ha c hc y z hy hz => ?_⟩
  ·refine List.Pairwise.imp_of_mem ?_ h.sorted
   intro a c ha hc hq y z hy hz
   exact hq y z (hold ha hy) (hold hc hz)
  ·rw [List.mem_singleton.1 hc, hself] at hz
   cases hz
   exact hmb a ha y (hold ha hy)
 ·intro a ha c hc y z hy hz
  cases ha
  have hym := hold (by simp) hy
  rw [hm] at hym
  cases hym
  rw [← List.cons_append, List.mem_append] at hc
  rcases hc with hc | hc
  ·exact hmb c hc z (hold hc hz)
  ·rw [List.mem_singleton.1 hc, hself] at hz
   cases hz
   omega
theorem QueIs.pop {N : Nat} {out : List Int} {k : Nat} {todo : List Nat} (h : QueIs src arc N out (k :: todo)) (hk : ∀ b, arc k b → ∃ y : Int, out[b]? = some y ∧ 0 ≤ y) : QueIs src arc N out todo := by
 obtain ⟨m, hm, hm0⟩ := h.todo_ k (by simp)
 refine ⟨h.len, h.exact_, h.src_, fun j hj => h.todo_ j (List.mem_cons_of_mem _ hj), fun a j y hy hy0 ha haj => ?_, (List.pairwise_cons.1 h.sorted).2, fun a ha b hb x y hx hy => ?_⟩
 ·by_cases e : a = k
  ·subst e
   exact hk j haj
  ·exact h.done_ a j y hy hy0 (fun hin => by
    rcases List.mem_cons.1 hin with hin | hin
    ·exact e hin
    ·exact ha hin) haj
 ·have h1 := h.near k rfl b (List.mem_cons_of_mem _ hb) m y hm hy
  have h2 := (List.pairwise_cons.1 h.sorted).1 a (List.mem_of_mem_head? ha) m x hm hx
  omega
theorem QueIs.start {N : Nat} {out : List Int} {todo : List Nat} (hl : out.length = N) (h : ∀ (k : Nat) (x : Int), out[k]? = some x → (x = 0 ∧ src k) ∨ (x = -1 ∧ ¬ src k)) (hs : ∀ k, src k ↔ k ∈ todo) (hN : ∀ k, src k → k < N) : QueIs src arc N out todo := by
 have hz : ∀ k, src k → out[k]? = some 0 := fun k hk => by
  have ho : out[k]? = some (out[k]'(by rw [hl]; exact hN k hk)) := List.getElem?_eq_getElem _
  rcases h k _ ho with ⟨h1, _⟩ | ⟨_, h1⟩
  ·rw [ho, h1]
  ·exact absurd hk h1
 have hzt : ∀ k x, k ∈ todo → out[k]? = some x → x = 0 := fun k x hk hx => by
  rw [hz k ((hs k).2 hk)] at hx
  exact (Option.some.inj hx).symm
 refine ⟨hl, fun k x hx => ?_, fun k hk => ⟨0, hz k hk, by omega⟩, fun k hk => ⟨0, hz k ((hs k).2 hk), by omega⟩, fun a k x hx hx0 ha _ => ?_, ?_, fun a ha b hb x y hx hy => ?_⟩
 ·rcases h k x hx with ⟨rfl, h1⟩ | ⟨rfl, h1⟩
  ·exact ⟨fun _ => ⟨h1, fun m hm => absurd hm (by simp)⟩, fun h0 => absurd h0 (by omega)⟩
  ·exact ⟨fun h0 => absurd h0 (by omega), fun _ => rfl⟩
 ·rcases h a x hx with ⟨rfl, h1⟩ | ⟨rfl, h1⟩
  ·exact absurd ((hs a).1 h1) ha
  ·omega
 ·rw [List.pairwise_iff_forall_sublist]
  intro a b hab x y hx hy
  have ha := hab.subset (List.mem_cons_self)
  have hb := hab.subset (List.mem_cons_of_mem a (List.mem_cons_self))
  rw [hzt a x ha hx, hzt b y hb hy]
  omega
 ·rw [hzt a x (List.mem_of_mem_head? ha) hx, hzt b y hb hy]
  omega
end

end Go.Proofs.YtnhomkmfbngmgaaGreatDoor

namespace Go.Proofs.YtnhomkmfbngmgaaGreatDoor
set_option linter.unusedVariables false

def arcE (fw : Bool) (es : List Ed) (a k : Nat) : Prop := ∃ e : Ed, e ∈ es ∧ (if fw = true then e.1 = (a : Int) ∧ e.2.2 = (k : Int) else e.2.2 = (a : Int) ∧ e.1 = (k : Int))
def srcE (l : List Int) (k : Nat) : Prop := (k : Int) ∈ l
noncomputable def distF (fw : Bool) (N : Nat) (es : List Ed) (l : List Int) : List Int :=
 open Classical in if h : ∃ out, DistIs (srcE l) (arcE fw es) N out then h.choose else []
theorem distF_of {fw : Bool} {N : Nat} {es : List Ed} {l : List Int} {out : List Int} (h : DistIs (srcE l) (arcE fw es) N out) : distF fw N es l = out := by
 have hx : ∃ out, DistIs (srcE l) (arcE fw es) N out := ⟨out, h⟩
 unfold distF
 rw [dif_pos hx]
 exact DistIs.uniq _ _ hx.choose_spec h
section
variable {N n : Nat} {es : List Ed} {out next : List Int} {i : Nat} {e : Ed}
end

def negs : List Int → Nat
 | [] => 0
 | x :: l => (if x < 0 then 1 else 0) + negs l
theorem negs_set : ∀ {l : List Int} {k : Nat} {z v : Int}, l[k]? = some z → z < 0 → 0 ≤ v → negs (l.set k v) + 1 = negs l
 | [], k, z, v, h, _, _ => by simp at h
 | x :: l, 0, z, v, h, hz, hv => by
  simp at h
  subst h
  simp only [List.set_cons_zero, negs]
  rw [if_neg (by omega), if_pos hz]
  omega
 | x :: l, k + 1, z, v, h, hz, hv => by
  have := negs_set (l := l) (k := k) (v := v) (by simpa using h) hz hv
  simp only [List.set_cons_succ, negs]
  omega
theorem negs_le : ∀ (l : List Int), negs l ≤ l.length
 | [] => Nat.le_refl _
 | x :: l => by
  have := negs_le l
  simp only [negs, List.length_cons]
  split <;> omega
section
variable {es : List Ed} {vs : List Int} {N rd i : Nat} {out nx : List Int}
theorem arcE_in {N : Nat} (h : ∀ e ∈ es, (0 ≤ e.1 ∧ e.1 < (N : Int)) ∧ (0 ≤ e.2.2 ∧ e.2.2 < (N : Int))) {fw : Bool} : ∀ a k, arcE fw es a k → a < N ∧ k < N := by
 rintro a k ⟨e, he, h1⟩
 have := h e he
 cases fw
 ·rw [if_neg (by decide)] at h1
  omega
 ·rw [if_pos rfl] at h1
  omega
end
end Go.Proofs.YtnhomkmfbngmgaaGreatDoor

namespace Go.Proofs.YtnhomkmfbngmgaaGreatDoor
open Go.ChangeShapes Go.WideShapes Go.ChangeAt Go.RowKit
set_option linter.unusedVariables false
set_option linter.unusedSimpArgs false

def inS (s : List Bool) (v : Nat) : Bool := s[v]?.getD false
theorem inS_some {s : List Bool} {v : Nat} {b : Bool} (h : s[v]? = some b) : inS s v = b := by unfold inS; rw [h]; rfl
theorem inS_big {s : List Bool} {v : Nat} (h : s.length ≤ v) : inS s v = false := by unfold inS; rw [List.getElem?_eq_none h]; rfl
theorem inS_get {s : List Bool} {v : Nat} (h : v < s.length) : s[v]? = some (inS s v) := by unfold inS; rw [List.getElem?_eq_getElem h]; rfl
theorem inS_set {s : List Bool} {v u : Nat} {b : Bool} (h : v < s.length) : inS (s.set v b) u = if v = u then b else inS s u := by
 unfold inS
 by_cases e : v = u
 ·subst e; rw [List.getElem?_set_self h]; simp
 ·rw [List.getElem?_set_ne e]; simp [e]
def setOf (n : Nat) (p : Nat → Bool) : List Bool := (List.range n).map p
theorem setOf_len (n : Nat) (p : Nat → Bool) : (setOf n p).length = n := by simp [setOf]
theorem setOf_get {n : Nat} {p : Nat → Bool} {v : Nat} (h : v < n) : (setOf n p)[v]? = some (p v) := by simp [setOf, h]
theorem inS_setOf {n : Nat} {p : Nat → Bool} {v : Nat} : inS (setOf n p) v = (decide (v < n) && p v) := by
 by_cases h : v < n
 ·rw [inS_some (setOf_get h)]; simp [h]
 ·rw [inS_big (by rw [setOf_len]; omega)]; simp [h]
def bv (b : Bool) : List Value := [.bool b]
abbrev SlB := Sl 1 bv
theorem info_bool : (Tryz.prog.info? 4).map (fun i => (i.zero, i.size, i.bytes)) = some (some (.bool false), 1, 1) := by kernel_rfl
theorem elem_bool : Elem Tryz.prog 135 4 1 1 := Elem.of Tryz.underlying135 info_bool rfl (by omega) (by omega)
theorem elem_int64 : Elem Tryz.prog 32 2 1 8 := Elem.of Tryz.underlying32 info_int64 rfl (by omega) (by omega)

section
variable {w w' : World} {lo hi n : Nat} {A : Option Addr}
theorem SlB.get {l : List Bool} (h : SlB w lo hi A n l) {k : Nat} (hk : k < n) :
  ∃ b off, A = some ⟨b, off, none⟩ ∧ lo ≤ b ∧ b < hi ∧ b < w.heap.size ∧ l[k]? = some (inS l k) ∧ w.cell? ⟨b, off + k, none⟩ = some (.bool (inS l k)) ∧ w.frozen? ⟨b, off + k, none⟩ = false := by
 obtain ⟨b, off, e, g1, g2, g3, hc⟩ := h.at_ (by omega)
 have hl : k < l.length := by rw [h.len]; exact hk
 have h0 := hc k (inS l k) (inS_get hl) 0 _ rfl
 simp only [Nat.mul_one, Nat.add_zero] at h0
 exact ⟨b, off, e, g1, g2, g3, inS_get hl, h0.1, h0.2⟩
theorem SlB.put {b off : Nat} {l : List Bool} (h : SlB w lo hi (some ⟨b, off, none⟩) n l) {k : Nat} (hk : k < n) (x : Bool) : SlB (w.setCell ⟨b, off + k, none⟩ (.bool x)) lo hi (some ⟨b, off, none⟩) n (l.set k x) := by
 have := h.putN hk (fun _ => rfl) x
 simpa [putCells, bv] using this
theorem SlI.put' {b off : Nat} {l : List Int} (h : SlI w lo hi (some ⟨b, off, none⟩) n l) {k : Nat} (hk : k < n) (x : Int) : SlI (w.setCell ⟨b, off + k, none⟩ (.int .i64 x)) lo hi (some ⟨b, off, none⟩) n (l.set k x) := h.put hk x
end

theorem SlB.made (w : World) (n : Nat) : SlB (w.alloc (.cells (madeCells #[.bool false] n) 4)) w.heap.size (w.heap.size + 1) (some ⟨w.heap.size, 0, none⟩) n (setOf n fun _ => false) := by
 refine ⟨setOf_len _ _, fun hn => ⟨w.heap.size, 0, rfl, Nat.le_refl _, by omega, by simp, fun k x hx j u hu => ?_⟩⟩
 have hk : k < n := by
  have := (List.getElem?_eq_some_iff.1 hx).1
  rwa [setOf_len] at this
 rw [setOf_get hk] at hx
 cases hx
 have hj : j = 0 := by
  have := (List.getElem?_eq_some_iff.1 hu).1
  simp [bv] at this
  exact this
 subst hj
 simp [bv] at hu
 subst hu
 have hg := heap_alloc_new w (.cells (madeCells #[.bool false] n) 4)
 refine ⟨(cell_of_row _ _ _ _ _ (0, 0) hg).trans ?_, frozen_of_row _ _ _ _ _ hg⟩
 simp [madeCells, Value.cells, hk, Nat.mod_one]

theorem run_make_bool (n : Nat) (hn : n ≤ 1048576) (W : World) : (Instr.makeSlice 135 (.int .i64 (n : Int)) (.int .i64 (n : Int))).run Tryz.prog W = .ok (.slice (some ⟨W.heap.size, 0, none⟩) n n) (W.alloc (.cells (madeCells #[.bool false] n) 4)) := by
 obtain ⟨i0, hi0, hz0, hz1, hz2⟩ := info_parts info_bool
 have h := make_row (P := Tryz.prog) 135 4 i0 _ _ n Tryz.underlying135 hi0 hz0 hz1 (by rw [hz2]; omega) (by omega) W
 rw [Nat.mul_one] at h
 exact h

def intK (n k : Nat) (p : Nat → Int) : List Int := (List.range n).map fun v => if v < k then p v else 0
theorem intK_len (n k : Nat) (p : Nat → Int) : (intK n k p).length = n := by simp [intK]
theorem intK_all (n : Nat) (p : Nat → Int) : intK n n p = (List.range n).map p := by
 unfold intK
 apply List.map_congr_left
 intro v hv
 rw [if_pos (List.mem_range.1 hv)]
theorem intK_step {n k : Nat} {p : Nat → Int} (hk : k < n) : (intK n k p).set k (p k) = intK n (k + 1) p := by
 apply List.ext_getElem?
 intro i
 by_cases e : k = i
 ·subst e
  rw [List.getElem?_set_self (by rw [intK_len]; exact hk)]
  simp [intK, hk]
 ·rw [List.getElem?_set_ne e]
  by_cases hi : i < n
  ·simp only [intK, List.getElem?_map, List.getElem?_range hi, Option.map_some]
   have : (i < k) ↔ (i < k + 1) := by omega
   simp [this]
  ·rw [List.getElem?_eq_none (by rw [intK_len]; omega), List.getElem?_eq_none (by rw [intK_len]; omega)]
theorem run_make_int (n : Nat) (hn : n ≤ 1048576) (W : World) : (Instr.makeSlice 32 (.int .i64 (n : Int)) (.int .i64 (n : Int))).run Tryz.prog W = .ok (.slice (some ⟨W.heap.size, 0, none⟩) n n) (W.alloc (.cells (madeCells #[.int .i64 0] n) 2)) := by
 obtain ⟨i0, hi0, hz0, hz1, hz2⟩ := info_parts info_int64
 have h := make_row (P := Tryz.prog) 32 2 i0 _ _ n Tryz.underlying32 hi0 hz0 hz1 (by rw [hz2]; omega) (by omega) W
 rw [Nat.mul_one] at h
 exact h
theorem SlI.made (w : World) (n : Nat) (p : Nat → Int) : SlI (w.alloc (.cells (madeCells #[.int .i64 0] n) 2)) w.heap.size (w.heap.size + 1) (some ⟨w.heap.size, 0, none⟩) n (intK n 0 p) := by
 refine ⟨intK_len _ _ _, fun hn => ⟨w.heap.size, 0, rfl, Nat.le_refl _, by omega, by simp, fun k x hx j u hu => ?_⟩⟩
 have hk : k < n := by
  have := (List.getElem?_eq_some_iff.1 hx).1
  rwa [intK_len] at this
 have hx0 : x = 0 := by
  simp only [intK, List.getElem?_map, List.getElem?_range hk, Option.map_some] at hx
  simp at hx
  exact hx.symm
 subst hx0
 have hj : j = 0 := by
  have := (List.getElem?_eq_some_iff.1 hu).1
  simp [iv] at this
  exact this
 subst hj
 simp [iv] at hu
 subst hu
 have hg := heap_alloc_new w (.cells (madeCells #[.int .i64 0] n) 2)
 refine ⟨(cell_of_row _ _ _ _ _ (0, 0) hg).trans ?_, frozen_of_row _ _ _ _ _ hg⟩
 simp [madeCells, hk, Nat.mod_one]

end Go.Proofs.YtnhomkmfbngmgaaGreatDoor
