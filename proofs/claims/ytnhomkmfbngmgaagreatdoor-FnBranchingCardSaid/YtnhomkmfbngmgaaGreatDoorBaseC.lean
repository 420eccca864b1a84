/-
  Several texts in one:
  slices.SortFunc with compareEdges, and slices.Compact, on
  slices.Compact on edges of the call's own, by the program.
  The shelf's contracts on strings and numbers at this seat's
  The shelf's contract of SortFunc at []string, in plain words
  The program's test of a system. Conditions: sizes.
  The program's test of a deterministic system, and of
  Edges by a label in deterministic systems: at most one.
  The edges from a state, by the program. Conditions: sizes.
  Tables of answers, and least sets of pairs: plain.
  What internal edges reach from some states: plain.
  The order of labels, and what sorting and compacting them
  Finding a text in a list, the ends of edges with a label, and
  The shelf's contracts of Contains, Compact and Sort at
-/
import Derived.Test.YtnhomkmfbngmgaaGreatDoorBaseA
import Derived.Test.YtnhomkmfbngmgaaGreatDoorBaseB
import Derived.Lib.SliceRun
import Derived.Shelf.Strings.Builder1
import Derived.Shelf.Strings.Builder2
import Derived.Shelf.Strings.OnBuilder
import Derived.Shelf.Small.Bits
import Derived.Shelf.Small.Strs
import Derived.Shelf.Strings.BuilderF
import Derived.Shelf.Strings.BuilderK
import Derived.Shelf.Utf8.RuneCount
import Derived.Shelf.Strings.Builder2Cap
import Derived.Shelf.Strconv.Itoa0
import Derived.Shelf.Strconv.Itoa1
import Derived.Shelf.LaysM
import Derived.Shelf.Strconv.Itoa2
import Derived.Shelf.Strconv.Itoa3
import Derived.Shelf.Strconv.Itoa4
import Derived.Shelf.Strconv.ParseIntEmpty
import Derived.Shelf.Strconv.Clone
import Derived.Shelf.Strconv.SyntaxError
import Derived.Shelf.LaysC
import Derived.Shelf.Strconv.ToError
import Derived.Shelf.Strconv.Lower
import Derived.Shelf.Strconv.ParseUint10
import Derived.Shelf.Strconv.ParseUint10Empty
import Derived.Shelf.Strconv.ParseUint10Any
import Derived.Shelf.Strconv.ParseInt10
import Derived.Shelf.Strconv.RangeError
import Derived.Shelf.Strconv.ToErrorRange
import Derived.Shelf.Strconv.ParseUintEmpty
import Derived.Shelf.Strconv.ParseUint10b64
import Derived.Shelf.Strconv.ParseUint10b32
import Derived.Shelf.Strconv.ParseUint10b16
import Derived.Shelf.Strconv.ParseUint10b8
import Derived.Shelf.Strconv.ParseUint10At
import Derived.Shelf.Strconv.ParseInt10At64
import Derived.Shelf.Strconv.ParseInt10At32
import Derived.Shelf.Strconv.ParseInt10At16
import Derived.Shelf.Strconv.ParseInt10At8
import Derived.Shelf.Strconv.ParseInt10All
import Derived.Shelf.Strconv.ParseIntPublic10
import Derived.Shelf.Strconv.ErrVarParseInt
import Derived.Shelf.Strings.Search1
import Derived.Shelf.Strings.Search2
import Derived.Shelf.Strings.Search3
import Derived.Shelf.Strings.Cut
import Derived.Shelf.Strings.Count
import Derived.Shelf.Strings.Shaped
import Derived.Shelf.Strings.Prefix
import Derived.Shelf.Strings.Split
import Derived.Shelf.Strings.SplitShaped
import Derived.Shelf.Unicode.Decode
import Derived.Shelf.Strings.RuneCount
import Derived.Shelf.Strings.Explode
import Derived.Shelf.Bits.Mul64
import Derived.Shelf.Unicode.DecodeSlow
import Derived.Shelf.Unicode.DecodeAny
import Derived.Shelf.Strings.BuilderCap
import Derived.Shelf.Slices.Turned
import Derived.Shelf.Slices.Equal
import Derived.Ground.Names2Prog
import Derived.Shelf.Slices.Clone
import Derived.Shelf.Slices.CompactS
import Derived.Shelf.Slices.Cells
import Derived.Shelf.Slices.Empties2
import Derived.Ground.SlgnProg
import Derived.Shelf.SlicesG.Turned
import Derived.Shelf.SlicesG.Clone
import Derived.Shelf.SlicesG.CompactI
import Derived.Shelf.SlicesG.SearchI
import Derived.Shelf.SlicesG.Cells
import Derived.Shelf.SlicesE.Clone
import Derived.Ground.SlgcProg
import Derived.Shelf.SlicesG.Cmp
import Derived.Ground.SlsfProg
import Derived.Shelf.SlSortCmp.Insertion
import Derived.Ground.SlgmProg
import Derived.Shelf.SortM.Plain
import Derived.Shelf.SortM.SortNone
import Derived.Shelf.SlSortCmp.SiftDown1
import Derived.Shelf.SlSortCmp.HeapSort1
import Derived.Shelf.SlSortCmp.Insertion1
import Derived.Shelf.SlSortCmp.Median1
import Derived.Shelf.SlSortCmp.Pivot1
import Derived.Shelf.SlSortCmp.ReverseRange1
import Derived.Shelf.SlSortCmp.PartialInsertion1
import Derived.Shelf.SlSortCmp.PartitionEqual1
import Derived.Shelf.SlSortCmp.Partition1
import Derived.Shelf.SlSortCmp.Pdq1
import Derived.Shelf.SlSortCmp.Whole1
import Derived.Test.YtnhomkmfbngmgaaGreatDoorProg
import Derived.Shelf.SlSortCmp.NoneTotal
import Derived.Sort.EncStr
import Derived.Shelf.SlGeneric
import Derived.StillTailTactics
import Derived.Deep.LoopGhost
set_option linter.unusedSimpArgs false
set_option linter.unusedVariables false
namespace Go.Proofs.YtnhomkmfbngmgaaGreatDoor
open Go.ChangeShapes Go.WideShapes Go.ChangeAt Go.RowKit Go.Sort Go.Lib
set_option linter.unusedVariables false
set_option linter.unusedSimpArgs false

theorem push3 (h : Array Obj) (a b o : Obj) : ((h.push a).push b).push o = h ++ #[a, b, o] := by
 apply Array.ext'
 simp
theorem grow3a (w : World) (a b o : Obj) : (((w.alloc a).alloc b).drew).alloc o = grow (w.drewN 1) #[a, b, o] := by
 unfold grow
 rw [← push3]
 rfl
theorem grow3b (w : World) (a b o : Obj) : (((w.alloc a).alloc b).alloc o).drew = grow (w.drewN 1) #[a, b, o] := by
 unfold grow
 rw [← push3]
 rfl
set_option maxRecDepth 100000 in
set_option maxHeartbeats 1600000 in
theorem compareEdgesG_calls (x1 x2 x3 y1 y2 y3 : Int) (w : World) :
  Calls Tryz.prog 122 #[.agg #[.int .i64 x1, .int .i64 x2, .int .i64 x3], .agg #[.int .i64 y1, .int .i64 y2, .int .i64 y3]] w fun e w' => e = .returned (.int .i64 (cmpE (x1, x2, x3) (y1, y2, y3))) ∧ ∃ q os, w' = grow (w.drewN q) os := by
 have hv : Hid (cmpE (x1, x2, x3) (y1, y2, y3) = orF [cmpI x1 y1, cmpI x2 y2, cmpI x3 y3]) := rfl
 have hbA : Below w.heap.size w ((w.alloc (.cells #[.int .i64 x1, .int .i64 x2, .int .i64 x3] 84)).alloc (.cells #[.int .i64 y1, .int .i64 y2, .int .i64 y3] 84)) := ((Below.refl _ _).alloc (Nat.le_refl _) _).alloc (by simp only [World.size_alloc]; omega) _
 have k0 := (Below.heap_alloc (w.alloc (.cells #[.int .i64 x1, .int .i64 x2, .int .i64 x3] 84)) (.cells #[.int .i64 y1, .int .i64 y2, .int .i64 y3] 84) w.heap.size (by simp only [World.size_alloc]; omega)).trans (heap_alloc_new w (.cells #[.int .i64 x1, .int .i64 x2, .int .i64 x3] 84))
 have k1 := heap_alloc_new (w.alloc (.cells #[.int .i64 x1, .int .i64 x2, .int .i64 x3] 84)) (.cells #[.int .i64 y1, .int .i64 y2, .int .i64 y3] 84)
 rw [World.size_alloc] at k1
 have q := hide compare_calls
 have hgr1 : Hid (∀ o : Obj, ∃ (q : Nat) (os : Array Obj), (((w.alloc (.cells #[.int .i64 x1, .int .i64 x2, .int .i64 x3] 84)).alloc (.cells #[.int .i64 y1, .int .i64 y2, .int .i64 y3] 84)).drew).alloc o = grow (w.drewN q) os) := fun o => ⟨1, _, grow3a w _ _ o⟩
 have hgr2 : Hid (∀ o : Obj, ∃ (q : Nat) (os : Array Obj), (((w.alloc (.cells #[.int .i64 x1, .int .i64 x2, .int .i64 x3] 84)).alloc (.cells #[.int .i64 y1, .int .i64 y2, .int .i64 y3] 84)).alloc o).drew = grow (w.drewN q) os) := fun o => ⟨1, _, grow3b w _ _ o⟩
 replace hbA := hide hbA
 replace k0 := hide k0
 replace k1 := hide k1
 go_enter Tryz.func122, Tryz.ntmps122
 go_wp2_with fail
 generalize hW : ((w.alloc (.cells #[.int .i64 x1, .int .i64 x2, .int .i64 x3] 84)).alloc (.cells #[.int .i64 y1, .int .i64 y2, .int .i64 y3] 84)) = W at *
 have a0 : W.cell? ⟨w.heap.size, 0, none⟩ = some (.int .i64 x1) := (cell_of_row _ _ 0 _ _ (0, 0) k0.out).trans rfl
 have a1 : W.cell? ⟨w.heap.size, 1, none⟩ = some (.int .i64 x2) := (cell_of_row _ _ 1 _ _ (0, 0) k0.out).trans rfl
 have a2 : W.cell? ⟨w.heap.size, 2, none⟩ = some (.int .i64 x3) := (cell_of_row _ _ 2 _ _ (0, 0) k0.out).trans rfl
 have b0 : W.cell? ⟨w.heap.size + 1, 0, none⟩ = some (.int .i64 y1) := (cell_of_row _ _ 0 _ _ (0, 0) k1.out).trans rfl
 have b1 : W.cell? ⟨w.heap.size + 1, 1, none⟩ = some (.int .i64 y2) := (cell_of_row _ _ 1 _ _ (0, 0) k1.out).trans rfl
 have b2 : W.cell? ⟨w.heap.size + 1, 2, none⟩ = some (.int .i64 y3) := (cell_of_row _ _ 2 _ _ (0, 0) k1.out).trans rfl
 clear hW
 go_region_held3 (fun w' => w'.cell? ⟨w.heap.size, 0, none⟩ = some (.int .i64 x1) ∧ w'.cell? ⟨w.heap.size, 1, none⟩ = some (.int .i64 x2) ∧ w'.cell? ⟨w.heap.size, 2, none⟩ = some (.int .i64 x3) ∧ w'.cell? ⟨w.heap.size + 1, 0, none⟩ = some (.int .i64 y1) ∧ w'.cell? ⟨w.heap.size + 1, 1, none⟩ = some (.int .i64 y2) ∧ w'.cell? ⟨w.heap.size + 1, 2, none⟩ = some (.int .i64 y3)) (first | exact ⟨a0, a1, a2, b0, b1, b2⟩ | go_keep)
  (first
   | (go_at_call 216; (with_reducible refine (q.out _ _ _).mono ?_); rintro e w' ⟨rfl, rfl⟩)
   | (go_at_call 215; (refine (or3_calls _ _ _ _ _ _ (by exact heap_alloc_new W _)).mono ?_); rintro e w' ⟨rfl, rfl⟩))
 all_goals go_wp2
 all_goals go_ret
 all_goals
  first
   | exact ⟨ret_i (by rw [hv.out]), hgr1.out _⟩
   | exact ⟨ret_i (by rw [hv.out]), hgr2.out _⟩

theorem ltOf_cmpE (a b : Ed) : ltOf cmpE a b = edLess a b := by
 have h := cmpE_less a b
 unfold ltOf
 by_cases e : cmpE a b < 0
 ·rw [decide_eq_false (by omega)] at h
  have : edLess a b = true := by cases h2 : edLess a b <;> simp_all
  rw [this]; exact decide_eq_true e
 ·rw [decide_eq_true (by omega)] at h
  have : edLess a b = false := by cases h2 : edLess a b <;> simp_all
  rw [this]; exact decide_eq_false e
theorem swoE : SWO (ltOf cmpE) where
 irrefl x := by rw [ltOf_cmpE]; exact edLess_irr x
 trans x y z h1 h2 := by rw [ltOf_cmpE] at *; exact edLess_trans h1 h2
 ntrans x y z h1 h2 := by
  rw [ltOf_cmpE] at *
  by_cases e1 : x = y
  ·rw [e1]; exact h2
  ·by_cases e2 : y = z
   ·rw [← e2]; exact h1
   ·have g1 := (edLess_total e1).resolve_left (by rw [h1]; decide)
    have g2 := (edLess_total e2).resolve_left (by rw [h2]; decide)
    exact Bool.eq_false_iff.2 fun h => by
     have := edLess_trans (edLess_trans h g2) g1
     rw [edLess_irr] at this; cases this
theorem apartE (x y : Ed) (h : ltOf cmpE x y = false) (g : ltOf cmpE y x = false) : x = y := by
 rw [ltOf_cmpE] at h g
 by_cases e : x = y
 ·exact e
 ·rcases edLess_total e with h1 | h1
  ·rw [h] at h1; cases h1
  ·rw [g] at h1; cases h1
def sortE (l : List Ed) : List Ed := l.mergeSort fun x y => !(ltOf cmpE) y x
theorem sortE_len (l : List Ed) : (sortE l).length = l.length := List.length_mergeSort _
theorem sortE_mem {l : List Ed} {x : Ed} : x ∈ sortE l ↔ x ∈ l := List.mem_mergeSort
theorem sortE_le (l : List Ed) : (sortE l).Pairwise fun x y => edLess y x = false := by
 have := List.pairwise_mergeSort (le := fun x y : Ed => !(ltOf cmpE) y x) (fun a b c h1 h2 => by
  simp only [Bool.not_eq_true', ltOf_cmpE] at *
  exact Bool.eq_false_iff.2 fun h => by
   by_cases e : a = b
   ·rw [e] at h; rw [h] at h2; cases h2
   ·have g := (edLess_total e).resolve_right (by rw [h1]; decide)
    have := edLess_trans h g
    rw [this] at h2; cases h2) (fun a b => by
  simp only [Bool.or_eq_true, Bool.not_eq_true', ltOf_cmpE]
  by_cases h : edLess b a = true
  ·right
   exact Bool.eq_false_iff.2 fun g => by
    have := edLess_trans h g
    rw [edLess_irr] at this; cases this
  ·left; exact Bool.eq_false_iff.2 h) l
 exact this.imp fun h => by simpa [ltOf_cmpE] using h

section
variable {w : World} {base g n c q : Nat} {e : TypeId} {l d : List Ed} {os : Array Obj}
theorem flatE_get (d : List Ed) {j : Nat} (hj : j < d.length * 3) : (flatK ev 3 d.toArray)[j]? = (d.flatMap ev)[j]? := by
 have h1 : (flatK ev 3 d.toArray)[j]? = some ((flatK ev 3 d.toArray)[j]!) := by
  rw [getElem!_pos _ j (by simpa using hj), Array.getElem?_eq_getElem (by simpa using hj)]
 rw [h1, get_flatK ev 3 d.toArray j (by simpa using hj)]
 have hk : j / 3 < d.length := by omega
 have := flat_at flat_ev d (j / 3) d[j / 3] (List.getElem?_eq_getElem hk) (j % 3) ((ev d[j / 3])[j % 3]'(by rw [flat_ev.len]; omega)) (List.getElem?_eq_getElem _)
 rw [show j / 3 * 3 + j % 3 = j by omega] at this
 rw [this, getElem!_pos _ (j / 3) (by simpa using hk)]
 simp only [List.getElem_toArray]
 rw [getElem!_pos _ (j % 3) (by rw [flat_ev.len]; omega)]
theorem Own.holdsE (h : Own 3 ev w base e (some ⟨g, 0, none⟩) n c l) : HoldsK ev 3 w g 0 l.toArray := by
 intro j hj
 have hj' : j < l.length * 3 := by simpa using hj
 have hs := h.sl flat_ev
 have hn := h.len
 obtain ⟨b', off', e', -, -, -, hc⟩ := hs.at_ (by omega)
 cases e'
 have hk : j / 3 < l.length := by omega
 have h1 := flatE_get l hj'
 have h2 := flat_at flat_ev l (j / 3) l[j / 3] (List.getElem?_eq_getElem hk) (j % 3) ((ev l[j / 3])[j % 3]'(by rw [flat_ev.len]; omega)) (List.getElem?_eq_getElem _)
 rw [show j / 3 * 3 + j % 3 = j by omega] at h2
 rw [h2] at h1
 have h3 : (flatK ev 3 l.toArray)[j]! = (ev l[j / 3])[j % 3]'(by rw [flat_ev.len]; omega) := by
  rw [getElem!_pos _ j (by simpa using hj)]
  have := Array.getElem?_eq_getElem (xs := flatK ev 3 l.toArray) (i := j) (by simpa using hj)
  rw [this] at h1
  exact Option.some.inj h1
 have := hc (j / 3) l[j / 3] (List.getElem?_eq_getElem hk) (j % 3) _ (List.getElem?_eq_getElem (by rw [flat_ev.len]; omega))
 rw [show j / 3 * 3 + j % 3 = j by omega] at this
 show w.cell? ⟨g, 0 + j, none⟩ = some (id ((flatK ev 3 l.toArray)[j]!)) ∧ _
 rw [h3]
 exact this
theorem putE_block (w : World) (g q : Nat) (F : Array Value) (os : Array Obj) (hg : g < w.heap.size) :
  (grow (putRow id (Sort.ahead w q) g 0 F) os).heap[g]? = (w.heap[g]?).map (onCells (Go.Sort.putCells id 0 F)) := by
 rw [heap_grow_old _ _ (by simpa [putRow, mapBlock, Sort.ahead] using hg)]
 simp [putRow, mapBlock, Sort.ahead, Array.getElem?_modify]
theorem putE_grown (w : World) (g q : Nat) (F : Array Value) (os : Array Obj) : w.grownBy (grow (putRow id (Sort.ahead w q) g 0 F) os) (some g) := by
 refine ⟨rfl, rfl, rfl, by simp [putRow, mapBlock, Sort.ahead], fun k hk hne => ?_⟩
 rw [heap_grow_old _ _ (by simpa [putRow, mapBlock, Sort.ahead] using hk)]
 have hne' : g ≠ k := fun h => hne (by rw [h])
 simp [putRow, mapBlock, Sort.ahead, Array.getElem?_modify, hne']
theorem Own.putK (h : Own 3 ev w base e (some ⟨g, 0, none⟩) n c l) (hd : d.length = n) : Own 3 ev (sortWorldK ev 3 w g 0 q d.toArray os) base e (some ⟨g, 0, none⟩) n c d := by
 rcases h.2.2 with ⟨hv, -⟩ | ⟨g', cap, cur, hv, hb, hg, hnc, hcm, hcs, htake⟩
 ·cases hv
 ·cases hv
  have hlt : g < w.heap.size := (Array.getElem?_eq_some_iff.1 hg).1
  refine ⟨hd, by rw [flat_length flat_ev, hd], .inr ⟨g, c, Go.Sort.putCells id 0 (flatK ev 3 d.toArray) cur, rfl, hb, ?_, hnc, hcm, by simp [Go.Sort.putCells, hcs], ?_⟩⟩
  ·unfold sortWorldK putRowK
   rw [putE_block _ _ _ _ _ hlt, hg]
   rfl
  ·apply List.ext_getElem?
   intro k
   by_cases hk : k < n * 3
   ·have hkc : k < cur.size := by omega
    rw [List.getElem?_take, if_pos hk, Array.getElem?_toList]
    simp only [Go.Sort.putCells, Array.getElem?_mapIdx, Array.getElem?_eq_getElem hkc, Option.map_some]
    rw [if_pos ⟨Nat.zero_le _, by simp [hd]; omega⟩, Nat.sub_zero]
    have := flatE_get d (j := k) (by rw [hd]; exact hk)
    rw [← this, Array.getElem?_eq_getElem (by simp [hd]; omega), getElem!_pos _ k (by simp [hd]; omega)]
    rfl
   ·rw [List.getElem?_eq_none (by simp; omega), List.getElem?_eq_none (by rw [flat_length flat_ev, hd]; omega)]
end
section
variable {w : World} {base n c : Nat} {A : Option Addr} {l : List Ed}
theorem sortE_calls (h : Own 3 ev w base 84 A n c l) (hn : n ≤ 1000000000) :
  Calls Tryz.prog 132 #[.slice A n c, .func (.func 122) #[] #[]] w fun e w' => e = .returned (.tuple #[]) ∧ Own 3 ev w' base 84 A n c (sortE l) ∧ w.grownBy w' (Value.slice A n c).ownBlock := by
 rcases h.2.2 with ⟨hv, hn0⟩ | ⟨g, cap, cur, hv, hb, hg, hnc, hcm, hcs, htake⟩
 ·cases hv
  have hl := List.eq_nil_of_length_eq_zero h.len
  subst hl
  refine (Tryz.slices_SortFunc_edge_none none 0 _ w).mono ?_
  rintro e w' ⟨rfl, rfl⟩
  refine ⟨rfl, ?_, ⟨rfl, rfl, rfl, Nat.le_refl _, fun _ _ _ => rfl⟩⟩
  simpa [sortE] using h
 ·cases hv
  have hlt : g < w.heap.size := (Array.getElem?_eq_some_iff.1 hg).1
  have eg : ∀ args w, (callFunc 122 args).run Tryz.prog w = .ok (.enter 122 args) w := enters_of Tryz.func122 (by kernel_rfl) rfl
  have hsz : l.toArray.size = n := by simp [h.len]
  have hcmp : CmpLays Tryz.prog 122 #[] ev 3 cmpE g 0 l.toArray.size w := fun m os dk hs x y => compareEdgesG_calls x.1 x.2.1 x.2.2 y.1 y.2.1 y.2.2 _
  have hq := Tryz.slices_SortFunc_edge ev (fun x => flat_ev.len x) (fun x v hv => flat_ev.one x v hv) cmpE swoE 122 #[] g 0 c l.toArray w eg hcmp h.holdsE hlt (by rw [hsz]; omega) apartE
  rw [hsz] at hq
  refine hq.mono ?_
  rintro e w' ⟨rfl, q, os, rfl⟩
  exact ⟨rfl, h.putK (d := sortE l) ((sortE_len l).trans h.len), putE_grown _ _ _ _ _⟩
end
end Go.Proofs.YtnhomkmfbngmgaaGreatDoor

namespace Go.Proofs.YtnhomkmfbngmgaaGreatDoor
open Go.ChangeShapes Go.WideShapes Go.ChangeAt Go.RowKit Go.Sort Go.Lib
set_option linter.unusedVariables false
set_option linter.unusedSimpArgs false

theorem setCells_heap9 (g : Nat) (e : TypeId) : ∀ (vs : List Value) (o : Nat) (w : World) (cur : Array Value), w.heap[g]? = some (.cells cur e (0, 0)) → ∃ cur' : Array Value, (w.setCells g o vs).heap[g]? = some (.cells cur' e (0, 0)) ∧ cur'.size = cur.size ∧ ∀ i, i < o → cur'[i]? = cur[i]?
 | [], o, w, cur, h => ⟨cur, h, rfl, fun _ _ => rfl⟩
 | v :: r, o, w, cur, h => by
  have h1 := heap_setCell_same w g o cur _ v h
  obtain ⟨cur', a, b, c⟩ := setCells_heap9 g e r (o + 1) _ _ h1
  refine ⟨cur', a, by rw [b]; simp, fun i hi => ?_⟩
  rw [c i (by omega), Array.getElem?_setIfInBounds_ne (by omega)]
theorem setCells_only9 (g : Nat) : ∀ (vs : List Value) (o : Nat) (w : World), Only g (g + 1) w (w.setCells g o vs)
 | [], o, w => Only.refl _ _ _
 | v :: r, o, w => by
  have h1 := (Only.refl g (g + 1) w).setCell (p := ⟨g, o, none⟩) (Nat.le_refl _) (Nat.lt_succ_self _) v
  exact h1.trans' (setCells_only9 g r (o + 1) _)
theorem Own.clearE {w : World} {base g n c k : Nat} {e : TypeId} {l : List Ed} (h : Own 3 ev w base e (some ⟨g, 0, none⟩) n c l) (hk : k ≤ n) (vs : List Value) : Own 3 ev (w.setCells g (k * 3) vs) base e (some ⟨g, 0, none⟩) k c (l.take k) := by
 rcases h.2.2 with ⟨hv, -⟩ | ⟨g', cap, cur, hv, hb, hg, hnc, hcm, hcs, htake⟩
 ·cases hv
 ·cases hv
  have hn := h.len
  have hl : (l.take k).length = k := by rw [List.length_take]; omega
  obtain ⟨cur', a, b, d⟩ := setCells_heap9 g e vs (k * 3) w cur hg
  refine ⟨hl, by rw [flat_length flat_ev, hl], .inr ⟨g, c, cur', rfl, hb, a, by omega, hcm, by rw [b]; exact hcs, ?_⟩⟩
  apply List.ext_getElem?
  intro i
  by_cases hi : i < k * 3
  ·rw [List.getElem?_take, if_pos hi, Array.getElem?_toList, d i hi]
   have h1 : (cur.toList.take (n * 3))[i]? = (l.flatMap ev)[i]? := by rw [htake]
   rw [List.getElem?_take, if_pos (by omega), Array.getElem?_toList] at h1
   rw [h1]
   have h2 : l.flatMap ev = (l.take k).flatMap ev ++ (l.drop k).flatMap ev := by rw [← List.flatMap_append, List.take_append_drop]
   rw [h2, List.getElem?_append_left (by rw [flat_length flat_ev, hl]; exact hi)]
  ·rw [List.getElem?_eq_none (by simp; omega), List.getElem?_eq_none (by rw [flat_length flat_ev, hl]; omega)]
theorem run_clearE (w : World) (ty : TypeId) (b o n c : Nat) (hn : 0 < n) (hc : ∀ j, j < n * 3 → (w.cell? ⟨b, o + j, none⟩).isSome = true) (hf : ∀ j, j < n * 3 → w.frozen? ⟨b, o + j, none⟩ = false) :
  (Builtin.clear_ #[25] ty #[.slice (some ⟨b, o, none⟩) n c]).run Tryz.prog w = .ok (.tuple #[]) (w.setCells b o (List.replicate (n * 3) (.int .i64 0))) := by
 have hv : ∀ w, (zeroValue 84).run Tryz.prog w = .ok (.agg #[.int .i64 0, .int .i64 0, .int .i64 0]) w := fun w => by kernel_rfl
 have hzc : (Builtin.zeroCells (Value.agg #[.int .i64 0, .int .i64 0, .int .i64 0]).cells n).toList = List.replicate (n * 3) (.int .i64 0) := by
  have e : (Value.agg #[.int .i64 0, .int .i64 0, .int .i64 0]).cells = #[.int .i64 0, .int .i64 0, .int .i64 0] := rfl
  rw [e]
  apply List.ext_getElem
  ·simp [Builtin.zeroCells, Nat.mul_comm]
  ·intro i h1 h2
   simp only [Builtin.zeroCells, List.getElem_replicate]
   have : i % 3 = 0 ∨ i % 3 = 1 ∨ i % 3 = 2 := by omega
   rcases this with h | h | h <;> simp [h]
 have hst := run_storeCells_cells (P := Tryz.prog) b o (List.replicate (n * 3) (.int .i64 0)) 0 w (by simpa using hc) (by simpa using hf) (by intro v hv'; rw [List.eq_of_mem_replicate hv']; rfl)
 simp only [Nat.add_zero] at hst
 obtain ⟨m, rfl⟩ : ∃ m, n = m + 1 := ⟨n - 1, by omega⟩
 simp [Builtin.clear_, run_underlying Tryz.underlying25, hv, hzc, hst]
theorem ed_cases (x1 x2 x3 y1 y2 y3 : Int) : (y1 = x1 ∧ y2 = x2 ∧ y3 = x3) ∨ (((x1, x2, x3) : Ed) ≠ (y1, y2, y3) ∧ ((x1 == y1) = false ∨ (y1 = x1 ∧ (x2 == y2) = false) ∨ (y1 = x1 ∧ y2 = x2 ∧ (x3 == y3) = false))) := by
 by_cases a : x1 = y1
 ·by_cases b : x2 = y2
  ·by_cases c : x3 = y3
   ·exact .inl ⟨a.symm, b.symm, c.symm⟩
   ·exact .inr ⟨fun e => c (by injection e with _ e; injection e with _ e), .inr (.inr ⟨a.symm, b.symm, beq_eq_false_iff_ne.2 c⟩)⟩
  ·exact .inr ⟨fun e => b (by injection e with _ e; injection e with e _), .inr (.inl ⟨a.symm, beq_eq_false_iff_ne.2 b⟩)⟩
 ·exact .inr ⟨fun e => a (by injection e with e _), .inl (beq_eq_false_iff_ne.2 a)⟩
theorem gete {l : List Ed} {k : Nat} {x : Ed} (h : l[k]? = some x) : l.toArray[k]! = x := by
 obtain ⟨h1, h2⟩ := List.getElem?_eq_some_iff.1 h
 rw [getElem!_pos _ k (by simpa using h1)]
 simpa using h2
theorem only_grown {w w' : World} {g : Nat} (h : Only g (g + 1) w w') : w.grownBy w' (some g) := ⟨h.os, h.tape, h.output, h.size, fun k hk hne => h.block k hk (by
 have : g ≠ k := fun e => hne (by rw [e])
 omega)⟩

theorem cells_all {w : World} {base g n c j : Nat} {e : TypeId} {l : List Ed} (h : Own 3 ev w base e (some ⟨g, 0, none⟩) n c l) (hj : j < n * 3) :
  (w.cell? ⟨g, j, none⟩).isSome = true ∧ w.frozen? ⟨g, j, none⟩ = false := by
 obtain ⟨g', o', x1, x2, x3, ex, -, -, -, hx, c0, c1, c2, f0, f1, f2⟩ := SlE.get (h.sl flat_ev) (show j / 3 < n by omega)
 cases ex
 rw [Nat.zero_add] at c0 c1 c2 f0 f1 f2
 have : j = j / 3 * 3 ∨ j = j / 3 * 3 + 1 ∨ j = j / 3 * 3 + 2 := by omega
 rcases this with e | e | e <;> rw [e]
 ·exact ⟨by rw [c0]; rfl, f0⟩
 ·exact ⟨by rw [c1]; rfl, f1⟩
 ·exact ⟨by rw [c2]; rfl, f2⟩
theorem _root_.Go.Lib.CompInv.takeE {l M : List Ed} {m kk n : Nat} (h : CompInv l.toArray m kk M.toArray) (hl : l.length = n) (hm : m = n) : M.take kk = Lib.compact l := by
 subst hm
 have h1 : Lib.compact l = compactUpTo l.toArray m := by unfold compact; rw [hl]
 have h2 := h.size
 have h3 := h.lt
 simp only [List.size_toArray] at h2
 rw [h1]
 apply List.ext_getElem?
 intro j
 by_cases hj : j < kk
 ·rw [h.low j hj, List.getElem?_take, if_pos hj, List.getElem?_eq_getElem (show j < M.length by omega), getElem!_pos _ j (by simp; omega)]
  simp
 ·rw [List.getElem?_eq_none (by simp; omega), List.getElem?_eq_none (by rw [h.len]; omega)]
theorem compactE_mem {l : List Ed} {x : Ed} : x ∈ Lib.compact l ↔ x ∈ l := by
 unfold Lib.compact Lib.compactUpTo
 rw [List.mem_map]
 constructor
 ·rintro ⟨k, hk, rfl⟩
  have hk' := List.mem_range.1 (List.mem_filter.1 hk).1
  rw [getElem!_pos _ k (by simpa using hk')]
  simp
 ·intro hx
  obtain ⟨k, hk, rfl⟩ := List.mem_iff_getElem.1 hx
  have key : ∀ k, (hk : k < l.length) → ∃ a, a ∈ (List.range l.length).filter (Lib.keeps l.toArray) ∧ l.toArray[a]! = l[k] := by
   intro k
   induction k with
   | zero => exact fun hk => ⟨0, List.mem_filter.2 ⟨List.mem_range.2 hk, by simp [Lib.keeps]⟩, by rw [getElem!_pos _ 0 (by simpa using hk)]; simp⟩
   | succ k ih =>
    intro hk
    by_cases h : l.toArray[k + 1]! = l.toArray[k]!
    ·obtain ⟨a, ha, e⟩ := ih (by omega)
     refine ⟨a, ha, ?_⟩
     rw [e]
     rw [getElem!_pos _ (k + 1) (by simpa using hk), getElem!_pos _ k (by simp; omega)] at h
     simpa using h.symm
    ·exact ⟨k + 1, List.mem_filter.2 ⟨List.mem_range.2 hk, Lib.keeps_pos (by simpa using h)⟩, by rw [getElem!_pos _ (k + 1) (by simpa using hk)]; simp⟩
  exact key k hk
theorem compactE_len (l : List Ed) : (Lib.compact l).length ≤ l.length := by
 unfold Lib.compact Lib.compactUpTo
 rw [List.length_map]
 exact Nat.le_trans (List.length_filter_le _ _) (by simp)

set_option maxRecDepth 100000 in
set_option maxHeartbeats 6400000 in
theorem compactE_calls {w : World} {base n c : Nat} {A : Option Addr} {l : List Ed} (h : Own 3 ev w base 84 A n c l) (hn : n ≤ 1000000000) (hnc : n ≤ c) :
  Calls Tryz.prog 228 #[.slice A n c] w fun e w' => e = .returned (.slice A (Lib.compact l).length c) ∧ Own 3 ev w' base 84 A (Lib.compact l).length c (Lib.compact l) ∧ w.grownBy w' (Value.slice A n c).ownBlock := by
 have hll := h.len
 by_cases hn2 : n < 2
 ·have g1 : (n : Int) < 2 := by omega
  have hc0 : Lib.compact l = l := compact_all l fun j hj => by
   have : j = 0 := by omega
   subst this
   simp [keeps]
  rw [hc0, hll]
  replace h := hide h
  go_enter Tryz.func228, Tryz.ntmps228
  go_wp2_with fail
  go_ret
  exact ⟨rfl, h.out, ⟨rfl, rfl, rfl, Nat.le_refl _, fun _ _ _ => rfl⟩⟩
 have g1 : ¬ (n : Int) < 2 := by omega
 have hEe := hide elem_edge
 obtain ⟨g, rfl, hbg⟩ := h.neE (by omega)
 have hbl := (h.lt g rfl).2
 show Calls _ _ _ _ fun e w' => _ ∧ _ ∧ w.grownBy w' (some g)
 replace h := hide h
 go_enter Tryz.func228, Tryz.ntmps228
 go_wp2_with fail
 go_loopw [3] (fun v wr => ∃ u : Nat, u + 1 ≤ n ∧ v = .int .i64 ((u + 1 : Nat) : Int) ∧ Hid (∃ nq, wr = w.drewN nq) ∧ Hid (∀ j, j ≤ u → keeps l.toArray j = true)) (fun v _ => n - (intOf v).toNat)
 case atStart => exact ⟨0, by omega, rfl, ⟨0, rfl⟩, fun j hj => by
  have : j = 0 := by omega
  subst this
  simp [keeps]⟩
 case round =>
  obtain ⟨u, hu, rfl, hw, hall⟩ := hrel
  have hO : Hid (Own 3 ev wr base 84 (some ⟨g, 0, none⟩) n c l) := by
   obtain ⟨nq, e⟩ := hw.out
   show Own _ _ _ _ _ _ _ _ _
   rw [e]
   exact h.out.keep fun _ _ => rfl
  by_cases hlt : u + 1 < n
  ·have k1 : ((u + 1 : Nat) : Int) < (n : Int) := by omega
   have k0 : (0 : Int) ≤ ((u + 1 : Nat) : Int) := by omega
   have hi1 : IntKind.i64.wrap (((u + 1 : Nat) : Int) - 1) = (u : Int) := by rw [IntWalk.i64_in _ (by omega)]; omega
   have hi2 : ((u + 1 : Nat) : Int) - 1 = (u : Int) := by omega
   have u0 : (0 : Int) ≤ (u : Int) := by omega
   have u1 : (u : Int) < (n : Int) := by omega
   obtain ⟨gx, ox, x1, x2, x3, ex, -, -, -, hx, c0, c1, c2, -⟩ := SlE.get (hO.out.sl flat_ev) hlt
   obtain ⟨gy, oy, y1, y2, y3, ey, -, -, -, hy, d0, d1, d2, -⟩ := SlE.get (hO.out.sl flat_ev) (show u < n by omega)
   cases ex
   cases ey
   rw [Nat.zero_add] at c0 c1 c2 d0 d1 d2
   rcases ed_cases x1 x2 x3 y1 y2 y3 with ⟨e1, e2, e3⟩ | ⟨hne, hc⟩
   ·subst e1 e2 e3
    have hdup : Hid (keeps l.toArray (u + 1) = false) := keeps_neg (by omega) (by rw [gete hx]; exact (gete hy).symm)
    have hs1 : ∀ W : World, (Instr.slice 25 (.slice (some ⟨g, 0, none⟩) n c) (some (.int .i64 ((u + 1 : Nat) : Int))) none none).run Tryz.prog W = .ok (.slice (some ⟨g, (u + 1) * 3, none⟩) (n - (u + 1)) (c - (u + 1))) W := fun W => by
     rw [run_cut hEe.out _ n c (u + 1) (by omega) W]
     unfold cutA
     rw [if_neg (by omega)]
     simp [Addr.add]
    go_upto_region 6 with fail
    go_quiet (fail)
    obtain ⟨wi, hwi⟩ : ∃ wi, wi = wr.drewN nq := ⟨_, rfl⟩
    have hOi : Hid (Own 3 ev wi base 84 (some ⟨g, 0, none⟩) n c l) := by rw [hwi]; exact hO.out.keep fun _ _ => rfl
    have hon : Hid (Only g (g + 1) w wi) := by
     obtain ⟨nq2, e⟩ := hw.out
     rw [hwi, e]
     exact ⟨rfl, rfl, rfl, Nat.le_refl _, fun _ _ _ => rfl⟩
    rw [← hwi]
    replace hwi := hide hwi
    replace hx := hide hx
    replace hy := hide hy
    clear c0 c1 c2 d0 d1 d2 hO hw
    go_wp2_with fail
    obtain ⟨wQ, rfl⟩ : ∃ wQ : World, wQ = wr := ⟨_, rfl⟩
    go_loopw [3, 5] (fun v3 v5 wz => ∃ (kk v : Nat) (M : List Ed), v3 = .int .i64 (kk : Nat) ∧ v5 = .int .i64 ((v + 1 : Nat) : Int) ∧ u + 1 + v + 1 ≤ n ∧ Hid (Own 3 ev wz base 84 (some ⟨g, 0, none⟩) n c M) ∧ Hid (CompInv l.toArray (u + 1 + v + 1) kk M.toArray) ∧ Hid (Only g (g + 1) w wz)) (fun _ v _ => n - (intOf v).toNat)
    case atStart => exact ⟨u + 1, 0, l, rfl, rfl, by omega, hOi.out, CompInv.start (fun j hj => hall.out j (by omega)) hdup.out, hon.out⟩
    case round =>
     clear hOi hon
     obtain ⟨kk, v, M, rfl, rfl, hv, hOM, hI, hon⟩ := hrel
     have hMl := hOM.out.len
     have hkm := hI.out.lt
     by_cases hlt2 : u + 1 + (v + 1) < n
     ·have k2 : ((v + 1 : Nat) : Int) < ((n - (u + 1) : Nat) : Int) := by omega
      have k20 : (0 : Int) ≤ ((v + 1 : Nat) : Int) := by omega
      have hi3 : IntKind.i64.wrap (((v + 1 : Nat) : Int) - 1) = (v : Int) := by rw [IntWalk.i64_in _ (by omega)]; omega
      have hi4 : ((v + 1 : Nat) : Int) - 1 = (v : Int) := by omega
      have v0 : (0 : Int) ≤ (v : Int) := by omega
      have v1 : (v : Int) < ((n - (u + 1) : Nat) : Int) := by omega
      have kk0 : (0 : Int) ≤ (kk : Int) := by omega
      have kk1 : (kk : Int) < (n : Int) := by omega
      have hki : IntKind.i64.wrap ((kk : Int) + 1) = ((kk + 1 : Nat) : Int) := by rw [IntWalk.i64_in _ (by omega)]; omega
      have hvi : IntKind.i64.wrap (((v + 1 : Nat) : Int) + 1) = ((v + 1 + 1 : Nat) : Int) := by rw [IntWalk.i64_in _ (by omega)]; omega
      obtain ⟨gx, ox, x1, x2, x3, ex, -, -, -, hx, c0, c1, c2, -⟩ := SlE.get (hOM.out.sl flat_ev) hlt2
      obtain ⟨gy, oy, y1, y2, y3, ey, -, -, -, hy, d0, d1, d2, -⟩ := SlE.get (hOM.out.sl flat_ev) (show u + 1 + v < n by omega)
      obtain ⟨gz, oz, z1, z2, z3, ez, -, -, -, hz, z0c, z1c, z2c, z0f, z1f, z2f⟩ := SlE.get (hOM.out.sl flat_ev) (show kk < n by omega)
      cases ex
      cases ey
      cases ez
      rw [Nat.zero_add] at c0 c1 c2 d0 d1 d2 z0c z1c z2c z0f z1f z2f
      rw [show (u + 1 + (v + 1)) * 3 = (u + 1) * 3 + (v + 1) * 3 from Nat.add_mul _ _ _] at c0 c1 c2
      rw [show (u + 1 + v) * 3 = (u + 1) * 3 + v * 3 from Nat.add_mul _ _ _] at d0 d1 d2
      have hx' : l.toArray[u + 1 + v + 1]! = (x1, x2, x3) := by
       rw [← hI.out.high (u + 1 + v + 1) (by omega)]
       exact gete hx
      have hy' : l.toArray[u + 1 + v]! = (y1, y2, y3) := by
       rw [← hI.out.high _ (by omega)]
       exact gete hy
      replace hx := hide hx
      replace hy := hide hy
      replace hz := hide hz
      replace hx' := hide hx'
      replace hy' := hide hy'
      rcases ed_cases x1 x2 x3 y1 y2 y3 with ⟨e1, e2, e3⟩ | ⟨hne, hc⟩
      ·subst e1 e2 e3
       have hI2 : Hid (CompInv l.toArray (u + 1 + v + 1 + 1) kk M.toArray) := hI.out.skip (keeps_neg (by omega) (by rw [hx'.out, show u + 1 + v + 1 - 1 = u + 1 + v by omega]; exact hy'.out.symm))
       go_upto_region 11 with fail
       go_quiet (fail)
       obtain ⟨wj, hwj⟩ : ∃ wj, wj = wr.drewN nq := ⟨_, rfl⟩
       have hOj : Hid (Own 3 ev wj base 84 (some ⟨g, 0, none⟩) n c M) := by rw [hwj]; exact hOM.out.keep fun _ _ => rfl
       have hoj : Hid (Only g (g + 1) w wj) := by rw [hwj]; exact ⟨hon.out.os, hon.out.tape, hon.out.output, hon.out.size, hon.out.block⟩
       rw [← hwj]
       replace hwj := hide hwj
       clear c0 c1 c2 d0 d1 d2 z0c z1c z2c z0f z1f z2f
       go_wp2_with fail
       go_roundw
       ·exact ⟨kk, v + 1, M, rfl, rfl, by omega, hOj.out, hI2.out, hoj.out⟩
       ·simp [intOf]; omega
      ·have hI2 : Hid (CompInv l.toArray (u + 1 + v + 1 + 1) (kk + 1) (M.set kk (x1, x2, x3)).toArray) := by
        have h1 := hI.out.keep (by simp; omega) (keeps_pos (by rw [hx'.out, show u + 1 + v + 1 - 1 = u + 1 + v by omega, hy'.out]; exact hne))
        rw [hx'.out, List.setIfInBounds_toArray] at h1
        exact h1
       replace hne := hide hne
       rcases hc with e3 | ⟨e4, e3⟩ | ⟨e4, e5, e3⟩
       rotate_left
       subst e4
       rotate_left
       subst e4 e5
       rotate_left
       all_goals
        go_upto_region 11 with fail
        go_quiet (fail)
        go_wp2_with fail
        go_roundw
       all_goals
        first
         | refine ⟨kk + 1, v + 1, M.set kk (_, _, _), by go_num, by go_num, by omega, (hOM.out.keep fun _ _ => rfl).setE kk _ _ _, hI2.out, ?_⟩
         | (simp [intOf]; omega)
       all_goals
        have o1 : Only g (g + 1) w (wr.drewN nq) := ⟨hon.out.os, hon.out.tape, hon.out.output, hon.out.size, hon.out.block⟩
        have o2 := fun v => o1.setCell (p := ⟨g, kk * 3, none⟩) (Nat.le_refl _) (Nat.lt_succ_self _) v
        have o3 := fun v u => (o2 v).setCell (p := ⟨g, kk * 3 + 1, none⟩) (Nat.le_refl _) (Nat.lt_succ_self _) u
        exact (o3 _ _).setCell (p := ⟨g, kk * 3 + 2, none⟩) (Nat.le_refl _) (Nat.lt_succ_self _) _
     ·have hend : u + 1 + v + 1 = n := by omega
      have hcl := run_clearE wr 0 g (kk * 3) (n - kk) (c - kk) (by omega) (fun j hj => (cells_all hOM.out (j := kk * 3 + j) (by omega)).1) (fun j hj => (cells_all hOM.out (j := kk * 3 + j) (by omega)).2)
      have hcO := hide (hOM.out.clearE (k := kk) (by omega) (List.replicate ((n - kk) * 3) (.int .i64 0)))
      have hcon := hide (hon.out.trans' (setCells_only9 g (List.replicate ((n - kk) * 3) (.int .i64 0)) (kk * 3) wr))
      have hcL := hide (show M.take kk = Lib.compact l from hI.out.takeE hll hend)
      have hcn : (Lib.compact l).length = kk := by rw [← hcL.out, List.length_take]; omega
      have hs2 := run_head hEe.out (some ⟨g, 0, none⟩) n c kk (by omega)
      generalize wr.setCells g (kk * 3) (List.replicate ((n - kk) * 3) (.int .i64 0)) = wC at *
      go_wp2_with fail
      go_ret
      have e1 := hcO.out
      rw [hcL.out] at e1
      rw [hcn]
      exact ⟨rfl, e1, only_grown hcon.out⟩
   ·have hkeep : Hid (∀ j, j ≤ u + 1 → keeps l.toArray j = true) := fun j hj => by
     by_cases e : j = u + 1
     ·subst e
      exact keeps_pos (by rw [gete hx]; simp only [Nat.add_sub_cancel]; rw [gete hy]; exact hne)
     ·exact hall.out j (by omega)
    replace hx := hide hx
    replace hy := hide hy
    replace hne := hide hne
    rcases hc with e3 | ⟨e4, e3⟩ | ⟨e4, e5, e3⟩
    rotate_left
    subst e4
    rotate_left
    subst e4 e5
    rotate_left
    all_goals
     go_upto_region 6 with fail
     go_quiet (fail)
     obtain ⟨wi, hwi⟩ : ∃ wi, wi = wr.drewN nq := ⟨_, rfl⟩
     have hw2 : Hid (∃ nq, wi = w.drewN nq) := by
      obtain ⟨nq2, e⟩ := hw.out
      exact ⟨nq2 + nq, by rw [hwi, e, World.drewN_drewN]⟩
     rw [← hwi]
     replace hwi := hide hwi
     clear c0 c1 c2 d0 d1 d2 e3
     go_wp2_with fail
     go_roundw
    all_goals
     first
      | exact ⟨u + 1, by omega, by go_num, hw2.out, hkeep.out⟩
      | (simp [intOf]; omega)
  ·obtain rfl : u + 1 = n := by omega
   have hcL : Lib.compact l = l := compact_all l fun j hj => hall.out j (by omega)
   have hon : Hid (w.grownBy wr (some g)) := by
    obtain ⟨nq, e⟩ := hw.out
    show w.grownBy wr (some g)
    rw [e]
    exact ⟨rfl, rfl, rfl, Nat.le_refl _, fun _ _ _ => rfl⟩
   go_wp2_with fail
   go_ret
   rw [hcL, hll]
   exact ⟨rfl, hO.out, hon.out⟩
end Go.Proofs.YtnhomkmfbngmgaaGreatDoor

namespace Go.Proofs
open Go.Shelf
def Tryz.lays106_ren : Go.Shelf.Ren := ⟨fun | 106 => 292 | 213 => 352 | 265 => 378 | n => n, fun | 9 => 9 | 3 => 3 | n => n, fun | n => n⟩
theorem Tryz.lays106 : Go.Proofs.Lays.n106 Tryz.prog Tryz.lays106_ren := {
 mixed := by kernel_rfl
 f106 := Tryz.func292.trans (congrArg some (by kernel_rfl))
 f213 := Tryz.func352.trans (congrArg some (by kernel_rfl))
 f265 := Tryz.func378.trans (congrArg some (by kernel_rfl))
 t3 := Tryz.underlying3
 a3 := Tryz.isAgg3
 z3 := Tryz.sizeOf3
 v3 := Tryz.zeroValue3
 t9 := Tryz.underlying9
 a9 := Tryz.isAgg9
 z9 := Tryz.sizeOf9
 v9 := Tryz.zeroValue9 }
open Go.RowKit in
theorem Tryz.strings_Compare (a b : ByteArray) (w : World) :
  Calls Tryz.prog 292 #[.string a, .string b] w fun e w' => e = .returned (.int .i64 (Lib.compareBytes a.data.toList b.data.toList)) ∧ w' = w := Any.strings_Compare Tryz.lays106 a b w
def Tryz.lays194_ren : Go.Shelf.Ren := ⟨fun | 194 => 227 | n => n, fun | 31 => 24 | 9 => 9 | 3 => 3 | 4 => 4 | 0 => 0 | n => n, fun | n => n⟩
theorem Tryz.lays194 : Go.Proofs.Lays.n194 Tryz.prog Tryz.lays194_ren := {
 mixed := by kernel_rfl
 f194 := Tryz.func227.trans (congrArg some (by kernel_rfl))
 t0 := Tryz.underlying0
 a0 := Tryz.isAgg0
 z0 := Tryz.sizeOf0
 v0 := Tryz.zeroValue0
 t3 := Tryz.underlying3
 a3 := Tryz.isAgg3
 z3 := Tryz.sizeOf3
 v3 := Tryz.zeroValue3
 t4 := Tryz.underlying4
 a4 := Tryz.isAgg4
 z4 := Tryz.sizeOf4
 v4 := Tryz.zeroValue4
 t9 := Tryz.underlying9
 a9 := Tryz.isAgg9
 z9 := Tryz.sizeOf9
 v9 := Tryz.zeroValue9
 t31 := Tryz.underlying24
 a31 := Tryz.isAgg24
 z31 := Tryz.sizeOf24
 v31 := Tryz.zeroValue24 }
open Go.RowKit Go.Lib Go.Sort in
theorem Tryz.slices_Compact_string (blk off cap : Nat) (zs : List (List UInt8)) (w : World) (hH : Holds encStr w blk off zs.toArray) (hsz : zs.length ≤ 9223372036854775807) (hcap : zs.length ≤ cap) :
  Calls Tryz.prog 227 #[.slice (some ⟨blk, off, none⟩) zs.length cap] w fun e w' => e = .returned (.slice (some ⟨blk, off, none⟩) (Lib.compact zs).length cap) ∧ ∃ q, w' = putRow encStr (Sort.ahead w q) blk off (Lib.compact zs ++ List.replicate (zs.length - (Lib.compact zs).length) []).toArray := Any.slices_Compact_string Tryz.lays194 blk off cap zs w hH hsz hcap
open Go.RowKit Go.Lib Go.Sort in
theorem Tryz.slices_Compact_string_empty (a : Option Addr) (cap : Nat) (w : World) :
  Calls Tryz.prog 227 #[.slice a 0 cap] w fun e w' => e = .returned (.slice a 0 cap) ∧ w' = w := Any.slices_Compact_string_empty Tryz.lays194 a cap w
end Go.Proofs

namespace Go.Proofs
open Go.Shelf
def Tryz.laysSortF_ren : Go.Shelf.Ren := ⟨fun | 6 => 225 | 15 => 224 | 14 => 291 | 28 => 289 | 29 => 290 | 20 => 344 | 21 => 345 | 22 => 346 | 23 => 347 | 24 => 348 | 25 => 349 | 26 => 350 | 27 => 351 | 46 => 375 | 47 => 340 | 48 => 341 | 49 => 376 | 50 => 377 | 57 => 386 | n => n, fun | 22 => 24 | 24 => 9 | 25 => 221 | 3 => 3 | 39 => 243 | 0 => 0 | 53 => 292 | 55 => 137 | 4 => 4 | 46 => 285 | 45 => 284 | 50 => 289 | 5 => 5 | 9 => 9 | 66 => 327 | 70 => 331 | 76 => 352 | 77 => 353 | n => n, fun | n => n⟩
theorem Tryz.laysSortF : Go.Proofs.SlLaysF.n6 Tryz.prog Tryz.laysSortF_ren := {
 mixed := by kernel_rfl
 f6 := ⟨Tryz.f225.name, by decide, Tryz.func225.trans (congrArg some (by kernel_rfl))⟩
 f14 := ⟨Tryz.f291.name, by decide, Tryz.func291.trans (congrArg some (by kernel_rfl))⟩
 f15 := Tryz.func224.trans (congrArg some (by kernel_rfl))
 f20 := ⟨Tryz.f344.name, by decide, Tryz.func344.trans (congrArg some (by kernel_rfl))⟩
 f21 := ⟨Tryz.f345.name, by decide, Tryz.func345.trans (congrArg some (by kernel_rfl))⟩
 f22 := ⟨Tryz.f346.name, by decide, Tryz.func346.trans (congrArg some (by kernel_rfl))⟩
 f23 := ⟨Tryz.f347.name, by decide, Tryz.func347.trans (congrArg some (by kernel_rfl))⟩
 f24 := ⟨Tryz.f348.name, by decide, Tryz.func348.trans (congrArg some (by kernel_rfl))⟩
 f25 := ⟨Tryz.f349.name, by decide, Tryz.func349.trans (congrArg some (by kernel_rfl))⟩
 f26 := ⟨Tryz.f350.name, by decide, Tryz.func350.trans (congrArg some (by kernel_rfl))⟩
 f27 := ⟨Tryz.f351.name, by decide, Tryz.func351.trans (congrArg some (by kernel_rfl))⟩
 f28 := Tryz.func289.trans (congrArg some (by kernel_rfl))
 f29 := Tryz.func290.trans (congrArg some (by kernel_rfl))
 f46 := ⟨Tryz.f375.name, by decide, Tryz.func375.trans (congrArg some (by kernel_rfl))⟩
 f47 := Tryz.func340.trans (congrArg some (by kernel_rfl))
 f48 := Tryz.func341.trans (congrArg some (by kernel_rfl))
 f49 := ⟨Tryz.f376.name, by decide, Tryz.func376.trans (congrArg some (by kernel_rfl))⟩
 f50 := ⟨Tryz.f377.name, by decide, Tryz.func377.trans (congrArg some (by kernel_rfl))⟩
 f57 := ⟨Tryz.f386.name, by decide, Tryz.func386.trans (congrArg some (by kernel_rfl))⟩
 t0 := Tryz.underlying0
 a0 := Tryz.isAgg0
 z0 := Tryz.sizeOf0
 v0 := Tryz.zeroValue0
 t3 := Tryz.underlying3
 a3 := Tryz.isAgg3
 z3 := Tryz.sizeOf3
 v3 := Tryz.zeroValue3
 t4 := Tryz.underlying4
 a4 := Tryz.isAgg4
 z4 := Tryz.sizeOf4
 v4 := Tryz.zeroValue4
 t5 := Tryz.underlying5
 a5 := Tryz.isAgg5
 z5 := Tryz.sizeOf5
 v5 := Tryz.zeroValue5
 t9 := Tryz.underlying9
 a9 := Tryz.isAgg9
 z9 := Tryz.sizeOf9
 v9 := Tryz.zeroValue9
 t22 := Tryz.underlying24
 a22 := Tryz.isAgg24
 z22 := Tryz.sizeOf24
 v22 := Tryz.zeroValue24
 a24 := Tryz.isAgg9
 z24 := Tryz.sizeOf9
 t25 := Tryz.underlying221
 a25 := Tryz.isAgg221
 z25 := Tryz.sizeOf221
 v25 := Tryz.zeroValue221
 t39 := Tryz.underlying243
 a39 := Tryz.isAgg243
 z39 := Tryz.sizeOf243
 v39 := Tryz.zeroValue243
 t45 := Tryz.underlying284
 a45 := Tryz.isAgg284
 z45 := Tryz.sizeOf284
 v45 := Tryz.zeroValue284
 t46 := Tryz.underlying285
 a46 := Tryz.isAgg285
 z46 := Tryz.sizeOf285
 v46 := Tryz.zeroValue285
 t50 := Tryz.underlying289
 a50 := Tryz.isAgg289
 z50 := Tryz.sizeOf289
 v50 := Tryz.zeroValue289
 t53 := Tryz.underlying292
 a53 := Tryz.isAgg292
 z53 := Tryz.sizeOf292
 v53 := Tryz.zeroValue292
 t55 := Tryz.underlying137
 a55 := Tryz.isAgg137
 z55 := Tryz.sizeOf137
 v55 := Tryz.zeroValue137
 t66 := Tryz.underlying327
 a66 := Tryz.isAgg327
 z66 := Tryz.sizeOf327
 v66 := Tryz.zeroValue327
 t70 := Tryz.underlying331
 a70 := Tryz.isAgg331
 z70 := Tryz.sizeOf331
 v70 := Tryz.zeroValue331
 t76 := Tryz.underlying352
 a76 := Tryz.isAgg352
 z76 := Tryz.sizeOf352
 v76 := Tryz.zeroValue352
 t77 := Tryz.underlying353
 a77 := Tryz.isAgg353
 z77 := Tryz.sizeOf353
 v77 := Tryz.zeroValue353 }
open Go.Shelf Go.RowKit Go.Lib Go.Sort in
theorem Tryz.slices_SortFunc_string (cf : List UInt8 → List UInt8 → Int) (hO : SWO (ltOf cf)) (g : Nat) (cb : Array Value) (blk off cap : Nat) (d : Array (List UInt8)) (w : World) (eg : ∀ args w, (callFunc g args).run Tryz.prog w = .ok (.enter g args) w) (hcmp : CmpLays1 Tryz.prog g cb encStr cf blk off d.size w) (hH : Holds encStr w blk off d) (hblk : blk < w.heap.size) (hsz : d.size < 4611686018427387904) (hT : ∀ x y, (ltOf cf) x y = false → (ltOf cf) y x = false → x = y) :
  Calls Tryz.prog 225 #[.slice (some ⟨blk, off, none⟩) d.size cap, .func (.func g) #[] cb] w fun e w' =>
   e = .returned (.tuple #[]) ∧ ∃ n os, w' = sortWorld encStr w blk off n (d.toList.mergeSort fun x y => !(ltOf cf) y x).toArray os := Any.slices_SortFunc_total Tryz.laysSortF encStr (fun _ => rfl) cf hO g cb blk off cap d w eg hcmp hH hblk hsz hT
open Go.Shelf Go.RowKit Go.Lib Go.Sort in
theorem Tryz.slices_SortFunc_string_none (p : Option Addr) (cap : Nat) (fv : Value) (w : World) :
  Calls Tryz.prog 225 #[.slice p 0 cap, fv] w fun e w' => e = .returned (.tuple #[]) ∧ w' = w := AnyF.slices_SortFunc_none { Tryz.laysSortF with } p cap fv w
end Go.Proofs

namespace Go.Proofs.YtnhomkmfbngmgaaGreatDoor
open Go.ChangeShapes Go.WideShapes Go.ChangeAt Go.RowKit Go.Sort
set_option linter.unusedVariables false

theorem okL_at2 {l : List ByteArray} {k : Nat} {x y : ByteArray} (hx : l[k]? = some x) (hk : 0 < k) (hy : l[k - 1]? = some y) : okL l k = ((labS x && !(decide (x = tauB))) && (decide (k ≤ 1) || !(Op.bytesLess x.toList y.toList || x.toList == y.toList))) := by
 rw [okL_at hx hk hy, bytesLess_total]
 rfl
theorem okL_bad {l : List ByteArray} {k : Nat} {x : ByteArray} (hx : l[k]? = some x) (h : labS x = false) : okL l k = false := by
 show okLab labS sLess l k = _
 unfold okLab
 rw [hx]
 simp [h]

set_option maxRecDepth 100000 in
set_option maxHeartbeats 3200000 in
theorem validLts_calls (x : CL) (d : DL) (w : World) (lo hi : Nat) (h : ReadL w lo hi x d) (htot : totL d ≤ 1048576) (he : Env w) :
  Calls Tryz.prog 54 #[.agg #[.int .i64 x.1, .int .i64 x.2.1, x.2.2.1, x.2.2.2]] w fun e w' => e = .returned (.bool (ltsV d)) ∧ Below w.heap.size w w' := by
 obtain ⟨s0, s1, v2, v3⟩ := x
 obtain ⟨st, ini, ls, es⟩ := d
 obtain ⟨e0, e1, ⟨A2, n2, k2, e2, hn2, hs2, t2⟩, ⟨A3, n3, k3, e3, hn3, t3⟩⟩ := h
 dsimp only at *
 subst e0 e1 e2 e3
 have l2 := t2.len
 have l3 := t3.len
 have hls : n2 ≤ 1048576 := by rw [← l2]; exact Nat.le_trans (totL_lab (s0, s1, ls, es)) htot
 have hes : n3 ≤ 1048576 := by rw [← l3]; exact Nat.le_trans (totL_edg (s0, s1, ls, es)) htot
 have hss : Hid (∀ s ∈ ls, s.size ≤ 1048576) := fun s hs => by
  have h1 : s.size ≤ (ls.map (·.size)).sum := mem_le_sum (List.mem_map.2 ⟨s, hs, rfl⟩)
  simp only [totL, totS] at htot
  omega
 have hval : ltsV (s0, s1, ls, es) = ((inB s0 1 40 && inB s1 0 (s0 - 1) && inB (n2 : Int) 1 12 && decide (n3 ≤ 300)) && (allK (okL ls) n2 && allK (okEd s0 (n2 : Int) es) n3)) := by rw [← l2, ← l3]; rfl
 replace l2 := hide l2
 replace l3 := hide l3
 replace t2 := hide t2
 replace t3 := hide t3
 have hW0 := hide ((Below.refl w.heap.size w).alloc (Nat.le_refl _) (.cells #[.int .i64 s0, .int .i64 s1, .slice A2 n2 k2, .slice A3 n3 k3] 27))
 have kE := heap_alloc_new w (.cells #[.int .i64 s0, .int .i64 s1, .slice A2 n2 k2, .slice A3 n3 k3] 27)
 have hbt : w.heap.size < (w.alloc (.cells #[.int .i64 s0, .int .i64 s1, .slice A2 n2 k2, .slice A3 n3 k3] 27)).heap.size := by rw [World.size_alloc]; omega
 replace he := hide he
 have hbt1 : w.heap.size + 1 ≤ (w.alloc (.cells #[.int .i64 s0, .int .i64 s1, .slice A2 n2 k2, .slice A3 n3 k3] 27)).heap.size := hbt
 clear htot hs2 hn2 hn3
 go_enter Tryz.func54, Tryz.ntmps54
 go_upto_region 1 with fail
 have c0 : (w.alloc (.cells #[.int .i64 s0, .int .i64 s1, .slice A2 n2 k2, .slice A3 n3 k3] 27)).cell? ⟨w.heap.size, 0, none⟩ = some (.int .i64 s0) := (cell_of_row _ _ 0 _ _ (0, 0) kE).trans rfl
 have c1 : (w.alloc (.cells #[.int .i64 s0, .int .i64 s1, .slice A2 n2 k2, .slice A3 n3 k3] 27)).cell? ⟨w.heap.size, 1, none⟩ = some (.int .i64 s1) := (cell_of_row _ _ 1 _ _ (0, 0) kE).trans rfl
 have c2 : (w.alloc (.cells #[.int .i64 s0, .int .i64 s1, .slice A2 n2 k2, .slice A3 n3 k3] 27)).cell? ⟨w.heap.size, 2, none⟩ = some (.slice A2 n2 k2) := (cell_of_row _ _ 2 _ _ (0, 0) kE).trans rfl
 have c3 : (w.alloc (.cells #[.int .i64 s0, .int .i64 s1, .slice A2 n2 k2, .slice A3 n3 k3] 27)).cell? ⟨w.heap.size, 3, none⟩ = some (.slice A3 n3 k3) := (cell_of_row _ _ 3 _ _ (0, 0) kE).trans rfl
 clear kE
 generalize hWW : (w.alloc (.cells #[.int .i64 s0, .int .i64 s1, .slice A2 n2 k2, .slice A3 n3 k3] 27)) = W0 at *
 clear hWW
 cases z0 : inB s0 1 40 with
 | false =>
  rw [z0] at hval
  have hv : Hid (ltsV (s0, s1, ls, es) = false) := hval
  clear hval
  go_wp2_with (first | (go_at_call 118; (with_reducible refine (within_calls _ _ _ _).mono ?_); rintro e w' ⟨rfl, rfl⟩))
  go_ret
  exact ⟨ret_b (by rw [hv.out]), hW0.out⟩
 | true =>
 have hst := inB_true.1 z0
 have hst1 := hst.1
 have hst2 := hst.2
 clear hst
 rw [z0] at hval
 cases z1 : inB s1 0 (s0 - 1) with
 | false =>
  rw [z1] at hval
  have hv : Hid (ltsV (s0, s1, ls, es) = false) := hval
  clear hval
  go_wp2_with (first | (go_at_call 118; (with_reducible refine (within_calls _ _ _ _).mono ?_); rintro e w' ⟨rfl, rfl⟩) | (go_at_call 119; (with_reducible refine (isState_calls _ _ _ _ _ _ hst1 hst2).mono ?_); rintro e w1 ⟨rfl, hb1⟩; have a2 := (hb1.cell (p := ⟨w.heap.size, 2, none⟩) hbt).trans c2; have a3 := (hb1.cell (p := ⟨w.heap.size, 3, none⟩) hbt).trans c3; replace hb1 := hide hb1))
  go_ret
  exact ⟨ret_b (by rw [hv.out]), hW0.out.trans (hb1.out.mono (Nat.le_of_lt hbt))⟩
 | true =>
 rw [z1] at hval
 cases z2 : inB (n2 : Int) 1 12 with
 | false =>
  rw [z2] at hval
  have hv : Hid (ltsV (s0, s1, ls, es) = false) := hval
  clear hval
  go_wp2_with (first | (go_at_call 118; (with_reducible refine (within_calls _ _ _ _).mono ?_); rintro e w' ⟨rfl, rfl⟩) | (go_at_call 119; (with_reducible refine (isState_calls _ _ _ _ _ _ hst1 hst2).mono ?_); rintro e w1 ⟨rfl, hb1⟩; have a2 := (hb1.cell (p := ⟨w.heap.size, 2, none⟩) hbt).trans c2; have a3 := (hb1.cell (p := ⟨w.heap.size, 3, none⟩) hbt).trans c3; replace hb1 := hide hb1))
  go_ret
  exact ⟨ret_b (by rw [hv.out]), hW0.out.trans (hb1.out.mono (Nat.le_of_lt hbt))⟩
 | true =>
 rw [z2] at hval
 by_cases h300 : n3 ≤ 300
 case neg =>
  rw [decide_eq_false h300] at hval
  have hv : Hid (ltsV (s0, s1, ls, es) = false) := hval
  have h3I : (300 : Int) < (n3 : Int) := by omega
  clear hval
  go_wp2_with (first | (go_at_call 118; (with_reducible refine (within_calls _ _ _ _).mono ?_); rintro e w' ⟨rfl, rfl⟩) | (go_at_call 119; (with_reducible refine (isState_calls _ _ _ _ _ _ hst1 hst2).mono ?_); rintro e w1 ⟨rfl, hb1⟩; have a2 := (hb1.cell (p := ⟨w.heap.size, 2, none⟩) hbt).trans c2; have a3 := (hb1.cell (p := ⟨w.heap.size, 3, none⟩) hbt).trans c3; replace hb1 := hide hb1))
  go_ret
  exact ⟨ret_b (by rw [hv.out]), hW0.out.trans (hb1.out.mono (Nat.le_of_lt hbt))⟩
 rw [decide_eq_true h300] at hval
 have hval2 : Hid (ltsV (s0, s1, ls, es) = (allK (okL ls) n2 && allK (okEd s0 (n2 : Int) es) n3)) := by show _ = _; rw [hval]; rfl
 have h3I : ¬ (300 : Int) < (n3 : Int) := by omega
 clear hval
 go_wp2_with (first | (go_at_call 118; (with_reducible refine (within_calls _ _ _ _).mono ?_); rintro e w' ⟨rfl, rfl⟩) | (go_at_call 119; (with_reducible refine (isState_calls _ _ _ _ _ _ hst1 hst2).mono ?_); rintro e w1 ⟨rfl, hb1⟩; have a2 := (hb1.cell (p := ⟨w.heap.size, 2, none⟩) hbt).trans c2; have a3 := (hb1.cell (p := ⟨w.heap.size, 3, none⟩) hbt).trans c3; replace hb1 := hide hb1))
 have hb1' := hide (hb1.out.mono hbt1)
 clear hb1
 go_loopw [34] (fun i wr => ∃ k : Nat, k ≤ n2 ∧ i = .int .i64 (k : Nat) ∧ Hid (∀ j, j < k → okL ls j = true) ∧ Below (w.heap.size + 1) W0 wr) (fun i _ => n2 - (intOf i).toNat)
 case atStart => exact ⟨0, Nat.zero_le _, rfl, fun j hj => absurd hj (by omega), hb1'.out⟩
 case round =>
  obtain ⟨k, hk, rfl, ha, hb⟩ := hrel
  have hwb := hW0.out.trans (hb.mono (Nat.le_succ _))
  have y2 := (hb.cell (p := ⟨w.heap.size, 2, none⟩) (Nat.lt_succ_self _)).trans c2
  have y3 := (hb.cell (p := ⟨w.heap.size, 3, none⟩) (Nat.lt_succ_self _)).trans c3
  have hgw := Nat.lt_of_lt_of_le hbt hb.size
  clear a2 a3
  by_cases hlt : k < n2
  ·obtain ⟨b, off, s, rfl, g1, g2, g3, hx, p0, -⟩ := SlS.get t2.out hlt
   replace p0 := (hwb.cell (p := ⟨b, off + k, none⟩) g3).trans p0
   have hg := Nat.lt_of_lt_of_le g3 hwb.size
   have q := isLabel_calls s wr (hss.out s (List.mem_of_getElem? hx)) (he.out.below hwb (Nat.le_refl _))
   cases hlab : labS s with
   | false =>
    have hv : Hid (ltsV (s0, s1, ls, es) = false) := by show _ = _; rw [hval2.out, allK_bad hlt (okL_bad hx hlab)]; rfl
    rw [hlab] at q
    replace q := hide q
    clear hx ha hlab t2 t3 hss
    go_wp2_with (first | (go_at_call 120; (with_reducible refine q.out.mono ?_); rintro e w2 ⟨rfl, hb2⟩; have m2 := (hb2.cell (p := ⟨w.heap.size, 2, none⟩) hgw).trans y2; have m3 := (hb2.cell (p := ⟨w.heap.size, 3, none⟩) hgw).trans y3; replace hb2 := hide hb2))
    go_ret
    exact ⟨ret_b (by rw [hv.out]), hwb.trans (hb2.out.mono hwb.size)⟩
   | true =>
   rw [hlab] at q
   replace q := hide q
   by_cases hk0 : 0 < k
   ·obtain ⟨b', off', r, eA, -, -, -, hy, p1, -⟩ := SlS.get t2.out (show k - 1 < n2 by omega)
    cases eA
    replace p1 := (hwb.cell (p := ⟨b, off + (k - 1), none⟩) g3).trans p1
    have hok := okL_at2 hx hk0 hy
    rw [hlab] at hok
    have hkb : ((k : Int) == 0) = false := by rw [beq_eq_false_iff_ne]; omega
    clear hx hy hlab
    by_cases htx : s = tauB
    ·have hv : Hid (ltsV (s0, s1, ls, es) = false) := by show _ = _; rw [hval2.out, allK_bad hlt (by rw [hok, decide_eq_true htx]; rfl)]; rfl
     have htt : (s.toList == [116, 97, 117]) = true := by rw [htx, tau_list]; rfl
     clear ha hok htx t2 t3 hss
     go_wp2_with (first | (go_at_call 120; (with_reducible refine q.out.mono ?_); rintro e w2 ⟨rfl, hb2⟩; have m2 := (hb2.cell (p := ⟨w.heap.size, 2, none⟩) hgw).trans y2; have m3 := (hb2.cell (p := ⟨w.heap.size, 3, none⟩) hgw).trans y3; have m4 := (hb2.cell (p := ⟨b, off + (k - 1), none⟩) hg).trans p1; replace hb2 := hide hb2))
     go_ret
     exact ⟨ret_b (by rw [hv.out]), hwb.trans (hb2.out.mono hwb.size)⟩
    have hne := tau_ne htx
    rw [decide_eq_false htx] at hok
    by_cases h1 : k = 1
    ·have hnext : Hid (∀ j, j < k + 1 → okL ls j = true) := lt_succ_cases ha.out (by rw [hok, h1]; rfl)
     have h1I : ¬ (1 : Int) < (k : Int) := by omega
     replace h1 := hide h1
     clear ha hok htx
     go_wp2_with (first | (go_at_call 120; (with_reducible refine q.out.mono ?_); rintro e w2 ⟨rfl, hb2⟩; have m2 := (hb2.cell (p := ⟨w.heap.size, 2, none⟩) hgw).trans y2; have m3 := (hb2.cell (p := ⟨w.heap.size, 3, none⟩) hgw).trans y3; have m4 := (hb2.cell (p := ⟨b, off + (k - 1), none⟩) hg).trans p1; replace hb2 := hide hb2))
     go_roundw
     case rel => exact ⟨k + 1, by omega, by go_num, hnext, hb.trans (hb2.out.mono hgw)⟩
     case measure => simp [intOf]; omega
    ·have h1I : (1 : Int) < (k : Int) := by omega
     cases hsl : (Op.bytesLess s.toList r.toList || s.toList == r.toList) with
     | false =>
      have hnext : Hid (∀ j, j < k + 1 → okL ls j = true) := lt_succ_cases ha.out (by rw [hok, hsl]; simp)
      have hs1 : Op.bytesLess s.toList r.toList = false := (Bool.or_eq_false_iff.1 hsl).1
      have hs2 : (s.toList == r.toList) = false := (Bool.or_eq_false_iff.1 hsl).2
      clear ha hok htx hsl h1
      go_wp2_with (first | (go_at_call 120; (with_reducible refine q.out.mono ?_); rintro e w2 ⟨rfl, hb2⟩; have m2 := (hb2.cell (p := ⟨w.heap.size, 2, none⟩) hgw).trans y2; have m3 := (hb2.cell (p := ⟨w.heap.size, 3, none⟩) hgw).trans y3; have m4 := (hb2.cell (p := ⟨b, off + (k - 1), none⟩) hg).trans p1; replace hb2 := hide hb2))
      go_roundw
      case rel => exact ⟨k + 1, by omega, by go_num, hnext, hb.trans (hb2.out.mono hgw)⟩
      case measure => simp [intOf]; omega
     | true =>
      have hv : Hid (ltsV (s0, s1, ls, es) = false) := by show _ = _; rw [hval2.out, allK_bad hlt (by rw [hok, hsl, decide_eq_false (show ¬ k ≤ 1 by omega)]; rfl)]; rfl
      clear ha hok htx h1 t2 t3 hss
      cases hs1 : Op.bytesLess s.toList r.toList with
      | true =>
       clear hsl
       go_wp2_with (first | (go_at_call 120; (with_reducible refine q.out.mono ?_); rintro e w2 ⟨rfl, hb2⟩; have m2 := (hb2.cell (p := ⟨w.heap.size, 2, none⟩) hgw).trans y2; have m3 := (hb2.cell (p := ⟨w.heap.size, 3, none⟩) hgw).trans y3; have m4 := (hb2.cell (p := ⟨b, off + (k - 1), none⟩) hg).trans p1; replace hb2 := hide hb2))
       go_ret
       exact ⟨ret_b (by rw [hv.out]), hwb.trans (hb2.out.mono hwb.size)⟩
      | false =>
       have hs2 : (s.toList == r.toList) = true := by rw [hs1] at hsl; exact hsl
       clear hsl
       go_wp2_with (first | (go_at_call 120; (with_reducible refine q.out.mono ?_); rintro e w2 ⟨rfl, hb2⟩; have m2 := (hb2.cell (p := ⟨w.heap.size, 2, none⟩) hgw).trans y2; have m3 := (hb2.cell (p := ⟨w.heap.size, 3, none⟩) hgw).trans y3; have m4 := (hb2.cell (p := ⟨b, off + (k - 1), none⟩) hg).trans p1; replace hb2 := hide hb2))
       go_ret
       exact ⟨ret_b (by rw [hv.out]), hwb.trans (hb2.out.mono hwb.size)⟩
   ·have hk00 : k = 0 := by omega
    subst hk00
    have hok := okL_zero hx
    simp only [Nat.add_zero] at p0
    clear hx hlab
    by_cases htx : s = tauB
    ·have hnext : Hid (∀ j, j < 0 + 1 → okL ls j = true) := lt_succ_cases ha.out (by rw [hok, decide_eq_true htx])
     have htt : (s.toList == [116, 97, 117]) = true := by rw [htx, tau_list]; rfl
     clear ha hok htx
     go_wp2_with (first | (go_at_call 120; (with_reducible refine q.out.mono ?_); rintro e w2 ⟨rfl, hb2⟩; have m2 := (hb2.cell (p := ⟨w.heap.size, 2, none⟩) hgw).trans y2; have m3 := (hb2.cell (p := ⟨w.heap.size, 3, none⟩) hgw).trans y3; replace hb2 := hide hb2))
     go_roundw
     case rel => exact ⟨0 + 1, by omega, by go_num, hnext, hb.trans (hb2.out.mono hgw)⟩
     case measure => simp [intOf]; omega
    ·have hv : Hid (ltsV (s0, s1, ls, es) = false) := by show _ = _; rw [hval2.out, allK_bad hlt (by rw [hok, decide_eq_false htx])]; rfl
     have hne := tau_ne htx
     clear ha hok htx t2 t3 hss
     go_wp2_with (first | (go_at_call 120; (with_reducible refine q.out.mono ?_); rintro e w2 ⟨rfl, hb2⟩; have m2 := (hb2.cell (p := ⟨w.heap.size, 2, none⟩) hgw).trans y2; have m3 := (hb2.cell (p := ⟨w.heap.size, 3, none⟩) hgw).trans y3; replace hb2 := hide hb2))
     go_ret
     exact ⟨ret_b (by rw [hv.out]), hwb.trans (hb2.out.mono hwb.size)⟩
  ·have hkn : n2 = k := by omega
   have hall : allK (okL ls) n2 = true := allK_good (by rw [hkn]; exact ha.out)
   have hval3 : Hid (ltsV (s0, s1, ls, es) = allK (okEd s0 (n2 : Int) es) n3) := by show _ = _; rw [hval2.out, hall]; rfl
   subst hkn
   clear hval2 hall ha t2 hss
   go_wp2_with fail
   go_loopw [67] (fun i wr2 => ∃ k2 : Nat, k2 ≤ n3 ∧ i = .int .i64 (k2 : Nat) ∧ Hid (∀ j, j < k2 → okEd s0 (n2 : Int) es j = true) ∧ Below (w.heap.size + 1) W0 wr2) (fun i _ => n3 - (intOf i).toNat)
   case atStart => exact ⟨0, Nat.zero_le _, rfl, fun j hj => absurd hj (by omega), hb⟩
   case round =>
    clear hb hwb y2 y3 hgw
    obtain ⟨k, hk, rfl, ha, hb⟩ := hrel
    have hwb := hW0.out.trans (hb.mono (Nat.le_succ _))
    have y0 := (hb.cell (p := ⟨w.heap.size, 0, none⟩) (Nat.lt_succ_self _)).trans c0
    have y1 := (hb.cell (p := ⟨w.heap.size, 1, none⟩) (Nat.lt_succ_self _)).trans c1
    have y2 := (hb.cell (p := ⟨w.heap.size, 2, none⟩) (Nat.lt_succ_self _)).trans c2
    have y3 := (hb.cell (p := ⟨w.heap.size, 3, none⟩) (Nat.lt_succ_self _)).trans c3
    have hgt := Nat.lt_of_lt_of_le hbt hb.size
    by_cases hlt : k < n3
    ·obtain ⟨b, off, f, lb, tg, rfl, g1, g2, g3, hx, p0, p1, p2, -, -, -⟩ := SlE.get t3.out hlt
     replace p0 := (hwb.cell g3).trans p0
     replace p1 := (hwb.cell (p := ⟨b, off + k * 3 + 1, none⟩) g3).trans p1
     replace p2 := (hwb.cell (p := ⟨b, off + k * 3 + 2, none⟩) g3).trans p2
     have hg := Nat.lt_of_lt_of_le g3 hwb.size
     have hbox : Below wr.heap.size wr (wr.alloc (.cells #[.int .i64 f, .int .i64 lb, .int .i64 tg] 84)) := (Below.refl _ _).alloc (Nat.le_refl _) _
     have kE := heap_alloc_new wr (.cells #[.int .i64 f, .int .i64 lb, .int .i64 tg] 84)
     have x0 := (hbox.cell (p := ⟨w.heap.size, 0, none⟩) hgt).trans y0
     have x1 := (hbox.cell (p := ⟨w.heap.size, 1, none⟩) hgt).trans y1
     have x2 := (hbox.cell (p := ⟨w.heap.size, 2, none⟩) hgt).trans y2
     have x3 := (hbox.cell (p := ⟨w.heap.size, 3, none⟩) hgt).trans y3
     have z0' : (wr.alloc (.cells #[.int .i64 f, .int .i64 lb, .int .i64 tg] 84)).cell? ⟨wr.heap.size, 0, none⟩ = some (.int .i64 f) := (cell_of_row _ _ 0 _ _ (0, 0) kE).trans rfl
     have z1' : (wr.alloc (.cells #[.int .i64 f, .int .i64 lb, .int .i64 tg] 84)).cell? ⟨wr.heap.size, 1, none⟩ = some (.int .i64 lb) := (cell_of_row _ _ 1 _ _ (0, 0) kE).trans rfl
     have z2' : (wr.alloc (.cells #[.int .i64 f, .int .i64 lb, .int .i64 tg] 84)).cell? ⟨wr.heap.size, 2, none⟩ = some (.int .i64 tg) := (cell_of_row _ _ 2 _ _ (0, 0) kE).trans rfl
     have hprev : 0 < k → ∃ r1 r2 r3, es[k - 1]? = some (r1, r2, r3) ∧ (wr.alloc (.cells #[.int .i64 f, .int .i64 lb, .int .i64 tg] 84)).cell? ⟨b, off + (k - 1) * 3, none⟩ = some (.int .i64 r1) ∧ (wr.alloc (.cells #[.int .i64 f, .int .i64 lb, .int .i64 tg] 84)).cell? ⟨b, off + (k - 1) * 3 + 1, none⟩ = some (.int .i64 r2) ∧ (wr.alloc (.cells #[.int .i64 f, .int .i64 lb, .int .i64 tg] 84)).cell? ⟨b, off + (k - 1) * 3 + 2, none⟩ = some (.int .i64 r3) := fun hk0 => by
      obtain ⟨b', off', r1, r2, r3, eA, -, -, -, hy, u0, u1, u2, -, -, -⟩ := SlE.get t3.out (show k - 1 < n3 by omega)
      cases eA
      exact ⟨r1, r2, r3, hy, (hbox.cell hg).trans ((hwb.cell g3).trans u0), (hbox.cell (p := ⟨b, off + (k - 1) * 3 + 1, none⟩) hg).trans ((hwb.cell (p := ⟨b, off + (k - 1) * 3 + 1, none⟩) g3).trans u1), (hbox.cell (p := ⟨b, off + (k - 1) * 3 + 2, none⟩) hg).trans ((hwb.cell (p := ⟨b, off + (k - 1) * 3 + 2, none⟩) g3).trans u2)⟩
     replace hprev := hide hprev
     have hbw := hide (hwb.trans (hbox.mono hwb.size))
     have hbB := hide (hb.trans (hbox.mono hgt))
     have hbBs : Hid (w.heap.size + 1 ≤ (wr.alloc (.cells #[.int .i64 f, .int .i64 lb, .int .i64 tg] 84)).heap.size) := by show _ ≤ _; rw [World.size_alloc]; omega
     have hI0 : (0 : Int) ≤ (k : Int) := by omega
     have hI1 : (k : Int) < (n3 : Int) := by omega
     clear t3 hg g1 g2 g3 y0 y1 y2 hwb hb hbox kE hgt
     go_wp2_with fail
     clear p0 p1 p2 y3
     generalize hWE : (wr.alloc (.cells #[.int .i64 f, .int .i64 lb, .int .i64 tg] 84)) = WE at *
     generalize hbE : wr.heap.size = bE at *
     clear hWE hbE
     have r0 : ∀ d os, Calls Tryz.prog 119 #[.agg #[.int .i64 s0, .int .i64 s1, .slice A2 n2 k2, .slice (some ⟨b, off, none⟩) n3 k3], .int .i64 f] (grow (redrawn WE d) os) (fun e w'' => e = .returned (.bool (inB f 0 (s0 - 1))) ∧ ∃ p : Regrown, w'' = grow (redrawn WE p.d) p.os) := fun d os => Calls.regrown_of (isState_calls s0 s1 f _ _ _ hst1 hst2)
     have r1 : ∀ d os, Calls Tryz.prog 119 #[.agg #[.int .i64 s0, .int .i64 s1, .slice A2 n2 k2, .slice (some ⟨b, off, none⟩) n3 k3], .int .i64 tg] (grow (redrawn WE d) os) (fun e w'' => e = .returned (.bool (inB tg 0 (s0 - 1))) ∧ ∃ p : Regrown, w'' = grow (redrawn WE p.d) p.os) := fun d os => Calls.regrown_of (isState_calls s0 s1 tg _ _ _ hst1 hst2)
     have r2 := same_regrown (w := WE) (fun W => index_calls lb n2 hls W)
     have f0 := fun d os => cell_regrown x0 d os
     have f1 := fun d os => cell_regrown x1 d os
     have f2 := fun d os => cell_regrown x2 d os
     have f3 := fun d os => cell_regrown x3 d os
     have u0 := fun d os => cell_regrown z0' d os
     have u1 := fun d os => cell_regrown z1' d os
     have u2 := fun d os => cell_regrown z2' d os
     cases w0 : inB f 0 (s0 - 1) with
     | false =>
      have hv : Hid (ltsV (s0, s1, ls, es) = false) := by show _ = _; rw [hval3.out]; exact allK_bad hlt (okE_bad hx (by rw [w0]; rfl))
      simp only [w0] at r0
      replace r0 := hide r0
      clear r1 r2 w0 hx hprev ha
      refine wp_region_quiet_below (by kernel_rfl) (by kernel_rfl) ?_
      repeat (go_big_quiet_step (first | (with_reducible exact r0.out _ _)))
      refine wpQuiet_nil ?_
      intro _ hw'
      obtain ⟨⟨dq, osq⟩, hw''⟩ := hw'
      subst hw''
      have hbq := below_regrown WE dq osq
      generalize grow (redrawn WE dq) osq = wq at *
      go_wp2
      go_ret
      exact ⟨ret_b (by rw [hv.out]), hbw.out.trans (hbq.mono hbw.out.size)⟩
     | true =>
     simp only [w0] at r0
     replace r0 := hide r0
     cases w1 : inB tg 0 (s0 - 1) with
     | false =>
      have hv : Hid (ltsV (s0, s1, ls, es) = false) := by show _ = _; rw [hval3.out]; exact allK_bad hlt (okE_bad hx (by rw [w0, w1]; rfl))
      simp only [w1] at r1
      replace r1 := hide r1
      clear r2 w0 w1 hx hprev ha
      refine wp_region_quiet_below (by kernel_rfl) (by kernel_rfl) ?_
      repeat (go_big_quiet_step (first | (with_reducible exact r0.out _ _) | (with_reducible exact r1.out _ _)))
      refine wpQuiet_nil ?_
      intro _ hw'
      obtain ⟨⟨dq, osq⟩, hw''⟩ := hw'
      subst hw''
      have hbq := below_regrown WE dq osq
      generalize grow (redrawn WE dq) osq = wq at *
      go_wp2
      go_ret
      exact ⟨ret_b (by rw [hv.out]), hbw.out.trans (hbq.mono hbw.out.size)⟩
     | true =>
     simp only [w1] at r1
     replace r1 := hide r1
     cases w2 : inB lb 0 ((n2 : Int) - 1) with
     | false =>
      have hv : Hid (ltsV (s0, s1, ls, es) = false) := by show _ = _; rw [hval3.out]; exact allK_bad hlt (okE_bad hx (by rw [w0, w1, w2]; rfl))
      simp only [w2] at r2
      replace r2 := hide r2
      clear w0 w1 w2 hx hprev ha
      refine wp_region_quiet_below (by kernel_rfl) (by kernel_rfl) ?_
      repeat (go_big_quiet_step (first | (with_reducible exact r0.out _ _) | (with_reducible exact r1.out _ _) | (with_reducible exact r2.out _ _)))
      refine wpQuiet_nil ?_
      intro _ hw'
      obtain ⟨⟨dq, osq⟩, hw''⟩ := hw'
      subst hw''
      have hbq := below_regrown WE dq osq
      generalize grow (redrawn WE dq) osq = wq at *
      go_wp2
      go_ret
      exact ⟨ret_b (by rw [hv.out]), hbw.out.trans (hbq.mono hbw.out.size)⟩
     | true =>
     simp only [w2] at r2
     replace r2 := hide r2
     by_cases hk0 : 0 < k
     ·obtain ⟨q1, q2, q3, hy, v0, v1, v2⟩ := hprev.out hk0
      have hok := okE_at (st := s0) (m := (n2 : Int)) hx hk0 hy
      rw [w0, w1, w2] at hok
      have hlI : (0 : Int) < (k : Int) := by omega
      have hlJ : decide ((0 : Int) < (k : Int)) = true := decide_eq_true hlI
      have hI4 : (1 : Int) ≤ (k : Int) := by omega
      have hI3 : (k : Int) - 1 < (n3 : Int) := by omega
      have hI5 : ((k : Int) - 1).toNat = k - 1 := by omega
      have g0 := fun d os => cell_regrown v0 d os
      have g1 := fun d os => cell_regrown v1 d os
      have g2 := fun d os => cell_regrown v2 d os
      have r3 : ∀ d os, Calls Tryz.prog 122 #[.agg #[.int .i64 q1, .int .i64 q2, .int .i64 q3], .agg #[.int .i64 f, .int .i64 lb, .int .i64 tg]] (grow (redrawn WE d) os) (fun e w'' => e = .returned (.int .i64 (cmpE (q1, q2, q3) (f, lb, tg))) ∧ ∃ p : Regrown, w'' = grow (redrawn WE p.d) p.os) := fun d os => Calls.regrown_of (compareEdges_calls q1 q2 q3 f lb tg _)
      have hce := cmpE_less (q1, q2, q3) (f, lb, tg)
      generalize cmpE (q1, q2, q3) (f, lb, tg) = ce at *
      replace r3 := hide r3
      cases hls' : edLess (q1, q2, q3) (f, lb, tg) with
      | true =>
       rw [hls'] at hce
       replace hce : decide (0 ≤ ce) = false := hce
       have hce2 : ¬ (0 : Int) ≤ ce := of_decide_eq_false hce
       have hnext : Hid (∀ j, j < k + 1 → okEd s0 (n2 : Int) es j = true) := lt_succ_cases ha.out (by rw [hok, hls']; rfl)
       clear w0 w1 w2 hx hprev ha hok hy hls'
       refine wp_region_quiet_below (by kernel_rfl) (by kernel_rfl) ?_
       repeat (go_big_quiet_step (first | (with_reducible exact r0.out _ _) | (with_reducible exact r1.out _ _) | (with_reducible exact r2.out _ _) | (with_reducible exact r3.out _ _)))
       refine wpQuiet_nil ?_
       intro _ hw'
       obtain ⟨⟨dq, osq⟩, hw''⟩ := hw'
       subst hw''
       have hbq := below_regrown WE dq osq
       generalize grow (redrawn WE dq) osq = wq at *
       go_wp2
       go_roundw
       case rel => exact ⟨k + 1, by omega, by go_num, hnext, hbB.out.trans (hbq.mono hbBs.out)⟩
       case measure => simp [intOf]; omega
      | false =>
       rw [hls'] at hce
       replace hce : decide (0 ≤ ce) = true := hce
       have hce2 : (0 : Int) ≤ ce := of_decide_eq_true hce
       have hv : Hid (ltsV (s0, s1, ls, es) = false) := by show _ = _; rw [hval3.out]; exact allK_bad hlt (by rw [hok, hls']; rfl)
       clear w0 w1 w2 hx hprev ha hok hy hls'
       refine wp_region_quiet_below (by kernel_rfl) (by kernel_rfl) ?_
       repeat (go_big_quiet_step (first | (with_reducible exact r0.out _ _) | (with_reducible exact r1.out _ _) | (with_reducible exact r2.out _ _) | (with_reducible exact r3.out _ _)))
       refine wpQuiet_nil ?_
       intro _ hw'
       obtain ⟨⟨dq, osq⟩, hw''⟩ := hw'
       subst hw''
       have hbq := below_regrown WE dq osq
       generalize grow (redrawn WE dq) osq = wq at *
       go_wp2
       go_ret
       exact ⟨ret_b (by rw [hv.out]), hbw.out.trans (hbq.mono hbw.out.size)⟩
     ·have hk00 : k = 0 := by omega
      subst hk00
      have hok := okE_zero (st := s0) (m := (n2 : Int)) hx
      rw [w0, w1, w2] at hok
      have hnext : Hid (∀ j, j < 0 + 1 → okEd s0 (n2 : Int) es j = true) := lt_succ_cases ha.out (by rw [hok]; rfl)
      clear w0 w1 w2 hx hprev ha hok
      refine wp_region_quiet_below (by kernel_rfl) (by kernel_rfl) ?_
      repeat (go_big_quiet_step (first | (with_reducible exact r0.out _ _) | (with_reducible exact r1.out _ _) | (with_reducible exact r2.out _ _)))
      refine wpQuiet_nil ?_
      intro _ hw'
      obtain ⟨⟨dq, osq⟩, hw''⟩ := hw'
      subst hw''
      have hbq := below_regrown WE dq osq
      generalize grow (redrawn WE dq) osq = wq at *
      go_wp2
      go_roundw
      case rel => exact ⟨0 + 1, by omega, by go_num, hnext, hbB.out.trans (hbq.mono hbBs.out)⟩
      case measure => simp [intOf]; omega
    ·have hkn : k = n3 := by omega
     subst hkn
     have hv : Hid (ltsV (s0, s1, ls, es) = true) := by show _ = _; rw [hval3.out]; exact allK_good ha.out
     go_wp2_with fail
     go_ret
     exact ⟨ret_b (by rw [hv.out]), hwb⟩

end Go.Proofs.YtnhomkmfbngmgaaGreatDoor

namespace Go.Proofs.YtnhomkmfbngmgaaGreatDoor
open Go.ChangeShapes Go.WideShapes Go.ChangeAt Go.RowKit Go.Sort
set_option linter.unusedVariables false

set_option maxRecDepth 100000 in
theorem indexFuncEd_calls (F : FuncId) (caps : Array Value) (G : Ed → Bool) (A : Option Addr) (n c : Nat) (l : List Ed) (w : World) (lo hi : Nat) (h : SlE w lo hi A n l) (hn : n ≤ 1048576)
  (hF : ∀ (v : Value) (W : World), Sem.run Tryz.prog (callFunc F (#[v] ++ caps)) W = .ok (.enter F (#[v] ++ caps)) W)
  (hcl : ∀ (x y z : Int) (W : World), (x, y, z) ∈ l → Below w.heap.size w W → Calls Tryz.prog F (#[.agg #[.int .i64 x, .int .i64 y, .int .i64 z]] ++ caps) W (Says (G (x, y, z)) W)) :
  Calls Tryz.prog 234 #[.slice A n c, .func (.func F) #[] caps] w fun e w' => ∃ i : Int, e = .returned (.int .i64 i) ∧ decide (0 ≤ i) = l.any G ∧ Below w.heap.size w w' := by
 have hlen := hide h.len
 replace hcl := hide hcl
 go_enter Tryz.func234, Tryz.ntmps234
 go_wp2
 go_loopw [8] (fun i wr => ∃ k : Nat, k ≤ n ∧ i = .int .i64 k ∧ Below w.heap.size w wr ∧ Hid ((l.take k).any G = false)) (fun i _ => n - (intOf i).toNat)
 case atStart => exact ⟨0, Nat.zero_le _, rfl, Below.refl _ _, rfl⟩
 case round =>
  obtain ⟨k, hk, rfl, hb, ha⟩ := hrel
  by_cases hlt : k < n
  ·obtain ⟨b, off, x, y, z, rfl, g1, g2, g3, hx, c0, c1, c2, -, -, -⟩ := SlE.get h hlt
   replace c0 := (hb.cell (p := ⟨b, off + k * 3, none⟩) g3).trans c0
   replace c1 := (hb.cell (p := ⟨b, off + k * 3 + 1, none⟩) g3).trans c1
   replace c2 := (hb.cell (p := ⟨b, off + k * 3 + 2, none⟩) g3).trans c2
   have hc := hcl.out x y z wr (List.mem_of_getElem? hx) hb
   replace hx := hide hx
   clear h hcl
   by_cases hg : G (x, y, z) = true
   ·rw [hg] at hc
    replace hc := hide hc
    have hy := hide (any_hit hx.out hg)
    clear hg
    go_wp2_with fail
    refine hc.out.mono ?_
    rintro e w1 ⟨rfl, hb1⟩
    go_wp2_with fail
    go_ret
    exact ⟨_, rfl, by rw [hy.out]; simp, hb.trans (hb1.mono hb.size)⟩
   ·replace hg := Bool.eq_false_iff.2 hg
    rw [hg] at hc
    replace hc := hide hc
    have hy := hide (any_take_succ ha.out hx.out hg)
    clear hg
    go_wp2_with fail
    refine hc.out.mono ?_
    rintro e w1 ⟨rfl, hb1⟩
    go_wp2_with fail
    go_roundw
    case rel => exact ⟨k + 1, by omega, by go_num, hb.trans (hb1.mono hb.size), hy⟩
    case measure => simp [intOf]; omega
  ·have hkn : k = n := by omega
   subst hkn
   clear hcl
   go_wp2
   go_ret
   have hy := ha.out
   rw [List.take_of_length_le (by rw [hlen.out]; exact Nat.le_refl _)] at hy
   exact ⟨_, rfl, by rw [hy]; decide, hb⟩

theorem containsFuncEd_calls (F : FuncId) (caps : Array Value) (G : Ed → Bool) (A : Option Addr) (n c : Nat) (l : List Ed) (w : World) (lo hi : Nat) (h : SlE w lo hi A n l) (hn : n ≤ 1048576)
  (hF : ∀ (v : Value) (W : World), Sem.run Tryz.prog (callFunc F (#[v] ++ caps)) W = .ok (.enter F (#[v] ++ caps)) W)
  (hcl : ∀ (x y z : Int) (W : World), (x, y, z) ∈ l → Below w.heap.size w W → Calls Tryz.prog F (#[.agg #[.int .i64 x, .int .i64 y, .int .i64 z]] ++ caps) W (Says (G (x, y, z)) W)) :
  Calls Tryz.prog 153 #[.slice A n c, .func (.func F) #[] caps] w (Says (l.any G) w) := by
 have q := hide (indexFuncEd_calls F caps G A n c l w lo hi h hn hF hcl)
 clear h hF hcl
 go_enter Tryz.func153, Tryz.ntmps153
 go_wp2_with fail
 refine q.out.mono ?_
 rintro e w1 ⟨i, rfl, hi, hb⟩
 replace hi := hide hi
 go_wp2_with fail
 go_ret
 exact ⟨ret_b hi.out.symm, hb⟩


end Go.Proofs.YtnhomkmfbngmgaaGreatDoor

namespace Go.Proofs.YtnhomkmfbngmgaaGreatDoor
open Go.ChangeShapes Go.WideShapes Go.ChangeAt Go.RowKit Go.Sort
set_option linter.unusedVariables false

theorem bytesLess_irrefl : ∀ a : List UInt8, Op.bytesLess a a = false
 | [] => rfl
 | x :: a => by
  have : ¬ x < x := by rw [UInt8.lt_iff_toNat_lt]; omega
  simp [Op.bytesLess, this, bytesLess_irrefl a]
theorem bytesLess_trans : ∀ {a b c : List UInt8}, Op.bytesLess a b = true → Op.bytesLess b c = true → Op.bytesLess a c = true
 | [], [], _, h, _ => by simp [Op.bytesLess] at h
 | [], _ :: _, [], _, h => by simp [Op.bytesLess] at h
 | [], _ :: _, _ :: _, _, _ => by simp [Op.bytesLess]
 | _ :: _, [], _, h, _ => by simp [Op.bytesLess] at h
 | _ :: _, _ :: _, [], _, h => by simp [Op.bytesLess] at h
 | x :: a, y :: b, z :: c, h, g => by
  simp only [Op.bytesLess, Bool.or_eq_true, decide_eq_true_eq, Bool.and_eq_true, beq_iff_eq] at h g ⊢
  rw [UInt8.lt_iff_toNat_lt] at h g ⊢
  rcases h with h | ⟨rfl, h⟩
  ·rcases g with g | ⟨rfl, g⟩
   ·exact .inl (by omega)
   ·exact .inl h
  ·rcases g with g | ⟨rfl, g⟩
   ·exact .inl g
   ·exact .inr ⟨rfl, bytesLess_trans h g⟩

theorem edge_of {st ini : Int} {ls : List ByteArray} {es : List Ed} (h : ltsV (st, ini, ls, es) = true) {k : Nat} {f lb tg : Int} (hx : es[k]? = some (f, lb, tg)) :
  (0 ≤ f ∧ f ≤ st - 1) ∧ (0 ≤ tg ∧ tg ≤ st - 1) ∧ 0 ≤ lb ∧ lb ≤ (ls.length : Int) - 1 := by
 unfold ltsV ltsB at h
 simp only [Bool.and_eq_true] at h
 have hk := allK_get h.2.2 (List.getElem?_eq_some_iff.1 hx).1
 unfold okEd at hk
 simp only [hx, Bool.and_eq_true] at hk
 exact ⟨inB_true.1 hk.1.1.1, inB_true.1 hk.1.1.2, inB_true.1 hk.1.2⟩
end Go.Proofs.YtnhomkmfbngmgaaGreatDoor

namespace Go.Proofs.YtnhomkmfbngmgaaGreatDoor
open Go.ChangeShapes Go.WideShapes Go.ChangeAt Go.RowKit Go.Sort
set_option linter.unusedVariables false
set_option linter.unusedSimpArgs false

set_option maxRecDepth 100000 in
set_option maxHeartbeats 1600000 in
theorem out_calls (s0 s1 : Int) (v2 : Value) (A3 : Option Addr) (n3 k3 : Nat) (s : Int) (es : List Ed) (w : World) (lo hi : Nat) (t3 : SlE w lo hi A3 n3 es) (hes : n3 ≤ 1048576) (hv2 : ∃ A n k, v2 = .slice A n k) :
  Calls Tryz.prog 180 #[.agg #[.int .i64 s0, .int .i64 s1, v2, .slice A3 n3 k3], .int .i64 s] w fun e w' => ∃ A n c, e = .returned (.slice A n c) ∧ SlE w' w.heap.size w'.heap.size A n (outE es s) ∧ n ≤ 1048576 ∧ Below w.heap.size w w' := by
 obtain ⟨A2, n2, k2, rfl⟩ := hv2
 have l3 := hide t3.len
 have hE := hide elem_edge
 have hb0 : Below w.heap.size w (w.alloc (.cells #[.int .i64 s0, .int .i64 s1, .slice A2 n2 k2, .slice A3 n3 k3] 27)) := (Below.refl _ _).alloc (Nat.le_refl _) _
 have kE := heap_alloc_new w (.cells #[.int .i64 s0, .int .i64 s1, .slice A2 n2 k2, .slice A3 n3 k3] 27)
 have c3 : (w.alloc (.cells #[.int .i64 s0, .int .i64 s1, .slice A2 n2 k2, .slice A3 n3 k3] 27)).cell? ⟨w.heap.size, 3, none⟩ = some (.slice A3 n3 k3) := (cell_of_row _ _ 3 _ _ (0, 0) kE).trans rfl
 have hz' := hb0.size
 replace t3 := hide (t3.below hb0 (.inr (Nat.le_refl _)))
 replace hb0 := hide hb0
 clear kE
 go_enter Tryz.func180, Tryz.ntmps180
 go_upto_region 3 with fail
 clear c3
 generalize (w.alloc (.cells #[.int .i64 s0, .int .i64 s1, .slice A2 n2 k2, .slice A3 n3 k3] 27)) = W0 at *
 go_loopw [5, 11] (fun o i wr => ∃ k m c A, k ≤ n3 ∧ m ≤ k ∧ o = .slice A m c ∧ i = .int .i64 (k : Nat) ∧ Hid (Own 3 ev wr W0.heap.size 84 A m c (outE (es.take k) s)) ∧ Below W0.heap.size W0 wr) (fun _ i _ => n3 - (intOf i).toNat)
 case atStart => exact ⟨0, 0, 0, none, Nat.zero_le _, Nat.le_refl _, rfl, rfl, Own.nil_ _ _ _, Below.refl _ _⟩
 case round =>
  obtain ⟨k, m, c, A, hk, hmk, rfl, rfl, hown, hb⟩ := hrel
  have hz := hb.size
  by_cases hlt : k < n3
  ·obtain ⟨b, off, f, lb, tg, rfl, g1, g2, g3, hx, a0, a1, a2, -, -, -⟩ := SlE.get t3.out hlt
   replace a0 := (hb.cell g3).trans a0
   replace a1 := (hb.cell (p := ⟨b, off + k * 3 + 1, none⟩) g3).trans a1
   replace a2 := (hb.cell (p := ⟨b, off + k * 3 + 2, none⟩) g3).trans a2
   have hsu := outE_succ (s := s) hx
   have hbE : Below wr.heap.size wr (wr.alloc (.cells #[.int .i64 f, .int .i64 lb, .int .i64 tg] 84)) := (Below.refl _ _).alloc (Nat.le_refl _) _
   have kE := heap_alloc_new wr (.cells #[.int .i64 f, .int .i64 lb, .int .i64 tg] 84)
   have z0 : (wr.alloc (.cells #[.int .i64 f, .int .i64 lb, .int .i64 tg] 84)).cell? ⟨wr.heap.size, 0, none⟩ = some (.int .i64 f) := (cell_of_row _ _ 0 _ _ (0, 0) kE).trans rfl
   have z1 : (wr.alloc (.cells #[.int .i64 f, .int .i64 lb, .int .i64 tg] 84)).cell? ⟨wr.heap.size, 1, none⟩ = some (.int .i64 lb) := (cell_of_row _ _ 1 _ _ (0, 0) kE).trans rfl
   have z2 : (wr.alloc (.cells #[.int .i64 f, .int .i64 lb, .int .i64 tg] 84)).cell? ⟨wr.heap.size, 2, none⟩ = some (.int .i64 tg) := (cell_of_row _ _ 2 _ _ (0, 0) kE).trans rfl
   have hbB := hb.trans (hbE.mono hz)
   have hzB := hbB.size
   replace hown := hide (hown.out.alloc (.cells #[.int .i64 f, .int .i64 lb, .int .i64 tg] 84))
   replace hbB := hide hbB
   clear hx g1 g2 kE hbE hb
   go_upto_region 5 with fail
   clear a0 a1 a2
   generalize (wr.alloc (.cells #[.int .i64 f, .int .i64 lb, .int .i64 tg] 84)) = WE at *
   generalize wr.heap.size = bE at *
   have hza : ∀ o, W0.heap.size ≤ (WE.alloc o).heap.size := fun o => by rw [World.size_alloc]; omega
   by_cases hf : f = s
   ·subst hf
    rw [if_pos rfl] at hsu
    replace hsu := hide hsu
    go_wp2_with (first | (at_builtin; (with_reducible refine wpList_app rfl (.tmp 19) (.tmp 21) rfl hE.out flat_ev rfl (hown.out.alloc _) rfl (Sl.lit1' WE 84 (f, lb, tg) _ rfl 3 _ ?c0) ?c1 (hza _) ?_); rotate_right; intro A5 c5 w5 hown5 hgr5 hb5 _))
    case c0 => rfl
    case c1 => omega
    have hb6 := hide ((hbB.out.alloc hzB (.cells #[.int .i64 f, .int .i64 lb, .int .i64 tg] 84)).trans hb5)
    replace hown5 : Hid (Own 3 ev w5 W0.heap.size 84 A5 (m + 1) c5 (outE (es.take (k + 1)) f)) := by show Own _ _ _ _ _ _ _ _ _; rw [hsu.out]; exact hown5
    go_roundw
    case rel => exact ⟨k + 1, m + 1, c5, A5, by omega, by omega, rfl, by go_num, hown5, hb6.out⟩
    case measure => simp [intOf]; omega
   ·rw [if_neg hf, List.append_nil] at hsu
    have hfb : (f == s) = false := by rw [beq_eq_false_iff_ne]; exact hf
    replace hown : Hid (Own 3 ev WE W0.heap.size 84 A m c (outE (es.take (k + 1)) s)) := by show Own _ _ _ _ _ _ _ _ _; rw [hsu]; exact hown.out
    clear hsu hf
    go_wp2_with fail
    go_roundw
    case rel => exact ⟨k + 1, m, c, A, by omega, by omega, rfl, by go_num, hown, hbB.out⟩
    case measure => simp [intOf]; omega
  ·have hkn : k = n3 := by omega
   have hall : es.take k = es := List.take_of_length_le (by rw [l3.out, hkn]; exact Nat.le_refl _)
   have hsl := hide (hown.out.sl flat_ev)
   replace hall := hide hall
   replace hb := hide hb
   subst hkn
   go_wp2_with fail
   go_ret
   have h1 := hsl.out.more hz' (Nat.le_refl _)
   rw [hall.out] at h1
   exact ⟨A, m, c, rfl, h1, by omega, hb0.out.trans (hb.out.mono hz')⟩

end Go.Proofs.YtnhomkmfbngmgaaGreatDoor

namespace Go.Proofs.YtnhomkmfbngmgaaGreatDoor
set_option linter.unusedVariables false
set_option linter.unusedSimpArgs false

abbrev Rel2 := Int → Int → Prop
def getM (M : List (List Bool)) (x y : Nat) : Option Bool := M[x]?.bind fun r => r[y]?
def ChM (b : Bool) (M : List (List Bool)) (x y : Int) : Prop := 0 ≤ x ∧ 0 ≤ y ∧ getM M x.toNat y.toNat = some (!b)
def ClosedTo (b : Bool) (p : Nat) (F : Rel2 → Rel2) (M : List (List Bool)) (x y : Nat) : Prop := ∀ u v : Nat, v < p → (u < x ∨ u = x ∧ v < y) → F (ChM b M) (u : Int) (v : Int) → ChM b M (u : Int) (v : Int)
theorem ClosedTo.row {b : Bool} {p : Nat} {F : Rel2 → Rel2} {M : List (List Bool)} {x : Nat} (h : ClosedTo b p F M x p) : ClosedTo b p F M (x + 1) 0 := fun u v hv hl => h u v hv (by omega)
end Go.Proofs.YtnhomkmfbngmgaaGreatDoor

namespace Go.Proofs.YtnhomkmfbngmgaaGreatDoor
set_option linter.unusedVariables false
set_option linter.unusedSimpArgs false

inductive TauC (es : List Ed) (ls : List ByteArray) (P : Int → Prop) : Int → Prop where
 | base {v : Int} (h : P v) : TauC es ls P v
 | step {e : Ed} (h : TauC es ls P e.1) (he : e ∈ es) (hl : ls[e.2.1.toNat]? = some tauB) : TauC es ls P e.2.2

theorem TauC.imp {es : List Ed} {ls : List ByteArray} {P Q : Int → Prop} (h : ∀ v, P v → Q v) {v : Int} (hv : TauC es ls P v) : TauC es ls Q v := by
 induction hv with
 | base h1 => exact .base (h _ h1)
 | step _ he hl ih => exact .step ih he hl
theorem TauC.congr {es : List Ed} {ls : List ByteArray} {P Q : Int → Prop} (h : ∀ v, P v ↔ Q v) (v : Int) : TauC es ls P v ↔ TauC es ls Q v := ⟨TauC.imp fun v => (h v).1, TauC.imp fun v => (h v).2⟩
end Go.Proofs.YtnhomkmfbngmgaaGreatDoor

namespace Go.Proofs.YtnhomkmfbngmgaaGreatDoor
open Go.Lib Go.Sort
set_option linter.unusedVariables false
set_option linter.unusedSimpArgs false

theorem cb_less : ∀ a b : List UInt8, Lib.compareBytes a b < 0 ↔ Op.bytesLess a b = true
 | [], [] => by simp [Lib.compareBytes, Op.bytesLess]
 | [], _ :: _ => by simp [Lib.compareBytes, Op.bytesLess]
 | _ :: _, [] => by simp [Lib.compareBytes, Op.bytesLess]
 | x :: a, y :: b => by
  have ih := cb_less a b
  unfold Lib.compareBytes Op.bytesLess
  by_cases h1 : x < y
  ·simp [h1]
  ·by_cases h2 : y < x
   ·have h3 : ¬ x = y := fun e => by subst e; exact h1 h2
    simp [h1, h2, h3]
   ·have h3 : x = y := by
     rw [UInt8.lt_iff_toNat_lt] at h1 h2
     exact UInt8.toNat_inj.1 (by omega)
    subst h3
    simp [h1, ih]
theorem bl_cases (a b : List UInt8) : Op.bytesLess a b = true ∨ a = b ∨ Op.bytesLess b a = true := by
 have := bytesLess_total a b
 by_cases h1 : Op.bytesLess a b = true
 ·exact .inl h1
 ·by_cases h2 : a = b
  ·exact .inr (.inl h2)
  ·have h3 : (a == b) = false := by simpa using h2
   rw [Bool.eq_false_iff.2 h1, h3] at this
   exact .inr (.inr this.symm)
def tauBL : List UInt8 := [116, 97, 117]
def cmpB (x y : List UInt8) : Int := if x = y then 0 else if x = tauBL then -1 else if y = tauBL then 1 else Lib.compareBytes x y
abbrev ltL := ltOf cmpB
theorem ltL_iff (x y : List UInt8) : ltL x y = true ↔ x ≠ y ∧ (x = tauBL ∨ (y ≠ tauBL ∧ Op.bytesLess x y = true)) := by
 unfold ltL ltOf cmpB
 rw [decide_eq_true_eq]
 by_cases h1 : x = y
 ·simp [h1]
 ·by_cases h2 : x = tauBL
  ·rw [if_neg h1, if_pos h2]
   exact ⟨fun _ => ⟨h1, .inl h2⟩, fun _ => by omega⟩
  ·by_cases h3 : y = tauBL
   ·rw [if_neg h1, if_neg h2, if_pos h3]
    exact ⟨fun h => by omega, fun ⟨_, h⟩ => by rcases h with h | h; exact absurd h h2; exact absurd h3 h.1⟩
   ·rw [if_neg h1, if_neg h2, if_neg h3, cb_less]
    exact ⟨fun h => ⟨h1, .inr ⟨h3, h⟩⟩, fun ⟨_, h⟩ => by rcases h with h | h; exact absurd h h2; exact h.2⟩
theorem ltL_total (x y : List UInt8) : ltL x y = true ∨ x = y ∨ ltL y x = true := by
 rw [ltL_iff, ltL_iff]
 by_cases h1 : x = y
 ·exact .inr (.inl h1)
 ·by_cases h2 : x = tauBL
  ·exact .inl ⟨h1, .inl h2⟩
  ·by_cases h3 : y = tauBL
   ·exact .inr (.inr ⟨fun e => h1 e.symm, .inl h3⟩)
   ·rcases bl_cases x y with h | h | h
    ·exact .inl ⟨h1, .inr ⟨h3, h⟩⟩
    ·exact absurd h h1
    ·exact .inr (.inr ⟨fun e => h1 e.symm, .inr ⟨h2, h⟩⟩)
theorem ltL_irr (x : List UInt8) : ltL x x = false := Bool.eq_false_iff.2 fun h => ((ltL_iff x x).1 h).1 rfl
theorem ltL_trans {x y z : List UInt8} (h : ltL x y = true) (g : ltL y z = true) : ltL x z = true := by
 rw [ltL_iff] at h g ⊢
 obtain ⟨h1, h2⟩ := h
 obtain ⟨g1, g2⟩ := g
 rcases h2 with h2 | ⟨h2, h3⟩
 ·refine ⟨fun e => ?_, .inl h2⟩
  rcases g2 with g2 | ⟨g2, g3⟩
  ·exact h1 (h2.trans g2.symm)
  ·exact g2 (e.symm.trans h2)
 ·rcases g2 with g2 | ⟨g2, g3⟩
  ·exact absurd g2 h2
  ·refine ⟨fun e => ?_, .inr ⟨g2, bytesLess_trans h3 g3⟩⟩
   subst e
   have := bytesLess_trans h3 g3
   rw [bytesLess_irrefl] at this
   cases this
theorem ltL_asym {x y : List UInt8} (h : ltL x y = true) (g : ltL y x = true) : False := by
 have := ltL_trans h g
 rw [ltL_irr] at this
 cases this
theorem swoL : SWO ltL where
 irrefl := ltL_irr
 trans x y z h g := ltL_trans h g
 ntrans x y z h g := Bool.eq_false_iff.2 fun k => by
  rcases ltL_total y x with h1 | h1 | h1
  ·have := ltL_trans h1 k
   rw [g] at this
   cases this
  ·subst h1
   rw [g] at k
   cases k
  ·rw [h] at h1
   cases h1
theorem apartL (x y : List UInt8) (h : ltL x y = false) (g : ltL y x = false) : x = y := by
 rcases ltL_total x y with h1 | h1 | h1
 ·rw [h] at h1; cases h1
 ·exact h1
 ·rw [g] at h1; cases h1

theorem rise_ext {α : Type} {r : α → α → Prop} (irr : ∀ a, ¬ r a a) (asy : ∀ a b, r a b → r b a → False) : ∀ {l m : List α}, l.Pairwise r → m.Pairwise r → (∀ x, x ∈ l ↔ x ∈ m) → l = m
 | [], [], _, _, _ => rfl
 | [], b :: m, _, _, h => by have := (h b).2 (List.mem_cons_self ..); cases this
 | a :: l, [], _, _, h => by have := (h a).1 (List.mem_cons_self ..); cases this
 | a :: l, b :: m, hl, hm, h => by
  obtain ⟨l1, l2⟩ := List.pairwise_cons.1 hl
  obtain ⟨m1, m2⟩ := List.pairwise_cons.1 hm
  have hab : a = b := by
   rcases List.mem_cons.1 ((h a).1 (List.mem_cons_self ..)) with e | e
   ·exact e
   ·rcases List.mem_cons.1 ((h b).2 (List.mem_cons_self ..)) with e2 | e2
    ·exact e2.symm
    ·exact (asy _ _ (l1 b e2) (m1 a e)).elim
  subst hab
  congr 1
  refine rise_ext irr asy l2 m2 fun x => ⟨fun hx => ?_, fun hx => ?_⟩
  ·rcases List.mem_cons.1 ((h x).1 (List.mem_cons_of_mem _ hx)) with e | e
   ·subst e; exact (irr _ (l1 _ hx)).elim
   ·exact e
  ·rcases List.mem_cons.1 ((h x).2 (List.mem_cons_of_mem _ hx)) with e | e
   ·subst e; exact (irr _ (m1 _ hx)).elim
   ·exact e
theorem compactL_mem {l : List (List UInt8)} {x : List UInt8} : x ∈ Lib.compact l ↔ x ∈ l := by
 unfold Lib.compact Lib.compactUpTo
 rw [List.mem_map]
 constructor
 ·rintro ⟨k, hk, rfl⟩
  have hk' := List.mem_range.1 (List.mem_filter.1 hk).1
  rw [getElem!_pos _ k (by simpa using hk')]
  simp
 ·intro hx
  obtain ⟨k, hk, rfl⟩ := List.mem_iff_getElem.1 hx
  have key : ∀ k, (hk : k < l.length) → ∃ a, a ∈ (List.range l.length).filter (Lib.keeps l.toArray) ∧ l.toArray[a]! = l[k] := by
   intro k
   induction k with
   | zero => exact fun hk => ⟨0, List.mem_filter.2 ⟨List.mem_range.2 hk, by simp [Lib.keeps]⟩, by rw [getElem!_pos _ 0 (by simpa using hk)]; simp⟩
   | succ k ih =>
    intro hk
    by_cases h : l.toArray[k + 1]! = l.toArray[k]!
    ·obtain ⟨a, ha, e⟩ := ih (by omega)
     refine ⟨a, ha, ?_⟩
     rw [e]
     rw [getElem!_pos _ (k + 1) (by simpa using hk), getElem!_pos _ k (by simp; omega)] at h
     simpa using h.symm
    ·exact ⟨k + 1, List.mem_filter.2 ⟨List.mem_range.2 hk, Lib.keeps_pos (by simpa using h)⟩, by rw [getElem!_pos _ (k + 1) (by simpa using hk)]; simp⟩
  exact key k hk
theorem compact_rise {l : List (List UInt8)} (h : l.Pairwise fun x y => ltL y x = false) : (Lib.compact l).Pairwise fun x y => ltL x y = true := by
 unfold Lib.compact Lib.compactUpTo
 rw [List.pairwise_map]
 refine List.Pairwise.imp_of_mem (fun {p q} hp hq hpq => ?_) (List.Pairwise.filter _ (List.pairwise_lt_range (n := l.length)))
 obtain ⟨hp1, -⟩ := List.mem_filter.1 hp
 obtain ⟨hq1, hq2⟩ := List.mem_filter.1 hq
 have hp1 := List.mem_range.1 hp1
 have hq1 := List.mem_range.1 hq1
 unfold Lib.keeps at hq2
 rw [decide_eq_true_eq] at hq2
 have hne : l.toArray[q]! ≠ l.toArray[q - 1]! := hq2.resolve_left (by omega)
 rw [getElem!_pos _ q (by simpa using hq1), getElem!_pos _ (q - 1) (by simp; omega)] at hne
 rw [getElem!_pos _ p (by simpa using hp1), getElem!_pos _ q (by simpa using hq1)]
 simp only [List.getElem_toArray] at hne ⊢
 have h1 := List.pairwise_iff_getElem.1 h (q - 1) q (by omega) hq1 (by omega)
 have h2 : ltL l[q - 1] l[q] = true := by
  rcases ltL_total l[q - 1] l[q] with g | g | g
  ·exact g
  ·exact absurd g.symm hne
  ·rw [h1] at g; cases g
 by_cases e : p = q - 1
 ·subst e; exact h2
 ·have h3 := List.pairwise_iff_getElem.1 h p (q - 1) hp1 (by omega) (by omega)
  rcases ltL_total l[p] l[q - 1] with g | g | g
  ·exact ltL_trans g h2
  ·rw [g]; exact h2
  ·rw [h3] at g; cases g
theorem sortL_rise (l : List (List UInt8)) : (l.mergeSort fun x y => !(ltL y x)).Pairwise fun x y => ltL y x = false := by
 refine (List.pairwise_mergeSort (le := fun x y => !(ltL y x)) (fun a b c h g => ?_) (fun a b => ?_) l).imp fun {a b} h => ?_
 ·simp only [Bool.not_eq_true'] at h g ⊢
  exact swoL.ntrans c b a g h
 ·cases h : ltL b a with
  | false => simp [h]
  | true =>
   have : ltL a b = false := Bool.eq_false_iff.2 fun g => ltL_asym h g
   simp [this]
 ·simpa using h
def toL (s : ByteArray) : List UInt8 := s.data.toList
def ofL (l : List UInt8) : ByteArray := ⟨l.toArray⟩
theorem ofL_toL (s : ByteArray) : ofL (toL s) = s := by unfold ofL toL; rfl
theorem toL_ofL (l : List UInt8) : toL (ofL l) = l := by unfold ofL toL; simp
theorem toL_eq (s : ByteArray) : s.toList = toL s := by
 obtain ⟨⟨x⟩⟩ := s
 exact ByteArray.toList_mk x
theorem toL_inj {a b : ByteArray} (h : toL a = toL b) : a = b := by rw [← ofL_toL a, h, ofL_toL]
theorem toL_tau : toL tauB = tauBL := by rw [← toL_eq, tau_list]; rfl
theorem labs_rise {ls : List ByteArray} (h : namesB ls = true) {i j : Nat} {x y : ByteArray} (hi : ls[i]? = some x) (hj : ls[j]? = some y) (hij : i < j) : ltL (toL x) (toL y) = true := by
 unfold namesB at h
 rw [Bool.and_eq_true] at h
 have hall : ∀ k, k < ls.length → okL ls k = true := fun k hk => allK_get h.2 hk
 have hlt : ∀ {k : Nat} {y : ByteArray}, ls[k]? = some y → k < ls.length := fun hk => (List.getElem?_eq_some_iff.1 hk).1
 have nt : ∀ {k : Nat} {y : ByteArray}, ls[k]? = some y → 0 < k → y ≠ tauB ∧ ∀ r, ls[k - 1]? = some r → 1 < k → Op.bytesLess r.toList y.toList = true := by
  intro k y hy h0
  have hk := hall k (hlt hy)
  have hr : ls[k - 1]? = some (ls[k - 1]'(by have := hlt hy; omega)) := List.getElem?_eq_getElem _
  rw [okL_at hy h0 hr] at hk
  simp only [Bool.and_eq_true, Bool.not_eq_true', decide_eq_false_iff_not, Bool.or_eq_true, decide_eq_true_eq] at hk
  refine ⟨hk.1.2, fun r hr2 h1 => ?_⟩
  rw [hr] at hr2
  have := Option.some.inj hr2
  subst this
  rcases hk.2 with h2 | h2
  ·omega
  ·exact h2
 have hy := nt hj (by omega)
 have hyt : toL y ≠ tauBL := fun e => hy.1 (toL_inj (e.trans toL_tau.symm))
 rw [ltL_iff]
 by_cases h0 : i = 0
 ·subst h0
  have hx := hall 0 (hlt hi)
  rw [okL_zero hi] at hx
  have : x = tauB := by simpa using hx
  subst this
  exact ⟨fun e => hyt (by rw [← e, toL_tau]), .inl toL_tau⟩
 ·have up : ∀ d : Nat, ∀ z, ls[i + (d + 1)]? = some z → Op.bytesLess (toL x) (toL z) = true := by
   intro d
   induction d with
   | zero =>
    intro z hz
    have := (nt hz (by omega)).2 x (by rw [show i + (0 + 1) - 1 = i by omega]; exact hi) (by omega)
    rwa [toL_eq, toL_eq] at this
   | succ d ih =>
    intro z hz
    have hr : ls[i + (d + 1)]? = some (ls[i + (d + 1)]'(by have := hlt hz; omega)) := List.getElem?_eq_getElem _
    have h1 := ih _ hr
    have h2 := (nt hz (by omega)).2 _ (by rw [show i + (d + 1 + 1) - 1 = i + (d + 1) by omega]; exact hr) (by omega)
    rw [toL_eq, toL_eq] at h2
    exact bytesLess_trans h1 h2
  have h1 := up (j - i - 1) y (by rw [show i + (j - i - 1 + 1) = j by omega]; exact hj)
  refine ⟨fun e => ?_, .inr ⟨hyt, h1⟩⟩
  rw [e, bytesLess_irrefl] at h1
  cases h1
end Go.Proofs.YtnhomkmfbngmgaaGreatDoor

namespace Go.Proofs.YtnhomkmfbngmgaaGreatDoor
open Go.ChangeShapes Go.WideShapes Go.ChangeAt Go.RowKit Go.Sort
set_option linter.unusedVariables false
set_option linter.unusedSimpArgs false

def anyL (ls : List ByteArray) (lab : ByteArray) : Bool := ls.any (fun x => decide (x = lab))
theorem str_list_ne3 {a b : ByteArray} (h : ¬ a = b) : (b.toList == a.toList) = false ∧ ¬ b.toList = a.toList := by
 have h1 := str_neq (a := b) (b := a) (fun e => h e.symm)
 exact ⟨h1, fun e => by rw [e, beq_self_eq_true] at h1; cases h1⟩
def FindI (l : List ByteArray) (s : ByteArray) (i : Int) : Prop := (i = -1 ∧ anyL l s = false) ∨ ∃ k : Nat, i = (k : Int) ∧ l[k]? = some s ∧ anyL l s = true
set_option maxRecDepth 100000 in
theorem l11Find_calls (s : ByteArray) (A : Option Addr) (n c : Nat) (l : List ByteArray) (w : World) (lo hi : Nat) (h : SlS w lo hi A n l) (hn : n ≤ 1048576) :
  Calls Tryz.prog 174 #[.slice A n c, .string s] w fun e w' => ∃ i : Int, e = .returned (.int .i64 i) ∧ FindI l s i ∧ w = w' := by
 have hlen := hide h.len
 go_enter Tryz.func174, Tryz.ntmps174
 go_wp2
 go_loop [5] (fun i => ∃ k : Nat, k ≤ n ∧ i = .int .i64 k ∧ Hid ((l.take k).any (fun x => decide (x = s)) = false)) (fun i => n - (intOf i).toNat)
 case atStart => exact ⟨0, Nat.zero_le _, rfl, rfl⟩
 case round =>
  obtain ⟨k, hk, rfl, ha⟩ := hrel
  by_cases hlt : k < n
  ·obtain ⟨b, off, x, rfl, g1, g2, g3, hx, c0, -⟩ := SlS.get h hlt
   clear h
   by_cases hq : x = s
   ·subst hq
    have hy : Hid (FindI l x (k : Int)) := .inr ⟨k, rfl, hx, any_hit (G := fun y => decide (y = x)) hx (decide_eq_true rfl)⟩
    have hself : (x.toList == x.toList) = true := beq_self_eq_true _
    clear hx
    go_wp2
    go_ret
    exact ⟨_, rfl, hy.out, rfl⟩
   ·have hy := hide (any_take_succ ha.out hx (decide_eq_false hq))
    obtain ⟨hne, hne2⟩ := str_list_ne3 hq
    have hne3 : (x.toList == s.toList) = false := by
     have := str_neq (a := x) (b := s) hq
     exact this
    have hne4 : ¬ x.toList = s.toList := fun e => hne2 e.symm
    clear hx hq
    go_wp2
    go_round
    case rel => exact ⟨k + 1, by omega, by go_num, hy⟩
    case measure => simp [intOf]; omega
  ·have hkn : k = n := by omega
   subst hkn
   clear h
   have hy := ha.out
   rw [List.take_of_length_le (by rw [hlen.out]; exact Nat.le_refl _)] at hy
   have hf : Hid (FindI l s (-1)) := .inl ⟨rfl, hy⟩
   clear ha hy
   go_wp2
   go_ret
   exact ⟨_, rfl, hf.out, rfl⟩


end Go.Proofs.YtnhomkmfbngmgaaGreatDoor

namespace Go.Proofs
open Go.Shelf
def Tryz.laysCompactI_ren : Go.Shelf.Ren := ⟨fun | 43 => 161 | n => n, fun | 22 => 32 | 23 => 2 | 3 => 3 | 4 => 4 | 0 => 0 | n => n, fun | n => n⟩
theorem Tryz.laysCompactI : Go.Proofs.SlLaysN.n43 Tryz.prog Tryz.laysCompactI_ren := {
 mixed := by kernel_rfl
 f43 := ⟨Tryz.f161.name, by decide, Tryz.func161.trans (congrArg some (by kernel_rfl))⟩
 t0 := Tryz.underlying0
 a0 := Tryz.isAgg0
 z0 := Tryz.sizeOf0
 v0 := Tryz.zeroValue0
 t3 := Tryz.underlying3
 a3 := Tryz.isAgg3
 z3 := Tryz.sizeOf3
 v3 := Tryz.zeroValue3
 t4 := Tryz.underlying4
 a4 := Tryz.isAgg4
 z4 := Tryz.sizeOf4
 v4 := Tryz.zeroValue4
 t22 := Tryz.underlying32
 a22 := Tryz.isAgg32
 z22 := Tryz.sizeOf32
 v22 := Tryz.zeroValue32
 t23 := Tryz.underlying2
 a23 := Tryz.isAgg2
 z23 := Tryz.sizeOf2
 v23 := Tryz.zeroValue2
 i23 := by kernel_rfl }
open Go.RowKit Go.Lib Go.Sort in
theorem Tryz.slices_Compact_int (blk off cap : Nat) (zs : List Int) (w : World) (hH : Holds (Value.int .i64) w blk off zs.toArray) (hsz : zs.length ≤ 9223372036854775807) (hcap : zs.length ≤ cap) :
  Calls Tryz.prog 161 #[.slice (some ⟨blk, off, none⟩) zs.length cap] w fun e w' => e = .returned (.slice (some ⟨blk, off, none⟩) (Lib.compact zs).length cap) ∧ ∃ q, w' = putRow (Value.int .i64) (Sort.ahead w q) blk off (Lib.compact zs ++ List.replicate (zs.length - (Lib.compact zs).length) 0).toArray := AnyG.slices_Compact_int Tryz.laysCompactI blk off cap zs w hH hsz hcap
open Go.RowKit Go.Lib Go.Sort in
theorem Tryz.slices_Compact_int_empty (a : Option Addr) (cap : Nat) (w : World) :
  Calls Tryz.prog 161 #[.slice a 0 cap] w fun e w' => e = .returned (.slice a 0 cap) ∧ w' = w := AnyG.slices_Compact_int_empty Tryz.laysCompactI a cap w
def Tryz.laysSortI_ren : Go.Shelf.Ren := ⟨fun | 5 => 160 | 8 => 224 | 7 => 238 | 19 => 289 | 20 => 290 | 10 => 295 | 11 => 296 | 12 => 297 | 13 => 298 | 14 => 299 | 15 => 300 | 16 => 301 | 17 => 302 | 18 => 303 | 30 => 354 | 31 => 340 | 32 => 341 | 33 => 355 | 34 => 356 | 35 => 274 | 40 => 383 | n => n, fun | 23 => 32 | 25 => 2 | 3 => 3 | 32 => 243 | 22 => 32 | 0 => 0 | 44 => 292 | 46 => 137 | 4 => 4 | 36 => 285 | 35 => 284 | 41 => 289 | 5 => 5 | 9 => 9 | 53 => 327 | 57 => 331 | 63 => 352 | 64 => 353 | n => n, fun | n => n⟩
theorem Tryz.laysSortI : Go.Proofs.SlLaysM.n5 Tryz.prog Tryz.laysSortI_ren := {
 mixed := by kernel_rfl
 f5 := ⟨Tryz.f160.name, by decide, Tryz.func160.trans (congrArg some (by kernel_rfl))⟩
 f7 := ⟨Tryz.f238.name, by decide, Tryz.func238.trans (congrArg some (by kernel_rfl))⟩
 f8 := Tryz.func224.trans (congrArg some (by kernel_rfl))
 f10 := ⟨Tryz.f295.name, by decide, Tryz.func295.trans (congrArg some (by kernel_rfl))⟩
 f11 := ⟨Tryz.f296.name, by decide, Tryz.func296.trans (congrArg some (by kernel_rfl))⟩
 f12 := ⟨Tryz.f297.name, by decide, Tryz.func297.trans (congrArg some (by kernel_rfl))⟩
 f13 := ⟨Tryz.f298.name, by decide, Tryz.func298.trans (congrArg some (by kernel_rfl))⟩
 f14 := ⟨Tryz.f299.name, by decide, Tryz.func299.trans (congrArg some (by kernel_rfl))⟩
 f15 := ⟨Tryz.f300.name, by decide, Tryz.func300.trans (congrArg some (by kernel_rfl))⟩
 f16 := ⟨Tryz.f301.name, by decide, Tryz.func301.trans (congrArg some (by kernel_rfl))⟩
 f17 := ⟨Tryz.f302.name, by decide, Tryz.func302.trans (congrArg some (by kernel_rfl))⟩
 f18 := ⟨Tryz.f303.name, by decide, Tryz.func303.trans (congrArg some (by kernel_rfl))⟩
 f19 := Tryz.func289.trans (congrArg some (by kernel_rfl))
 f20 := Tryz.func290.trans (congrArg some (by kernel_rfl))
 f30 := ⟨Tryz.f354.name, by decide, Tryz.func354.trans (congrArg some (by kernel_rfl))⟩
 f31 := Tryz.func340.trans (congrArg some (by kernel_rfl))
 f32 := Tryz.func341.trans (congrArg some (by kernel_rfl))
 f33 := ⟨Tryz.f355.name, by decide, Tryz.func355.trans (congrArg some (by kernel_rfl))⟩
 f34 := ⟨Tryz.f356.name, by decide, Tryz.func356.trans (congrArg some (by kernel_rfl))⟩
 f35 := ⟨Tryz.f274.name, by decide, Tryz.func274.trans (congrArg some (by kernel_rfl))⟩
 f40 := ⟨Tryz.f383.name, by decide, Tryz.func383.trans (congrArg some (by kernel_rfl))⟩
 t0 := Tryz.underlying0
 a0 := Tryz.isAgg0
 z0 := Tryz.sizeOf0
 v0 := Tryz.zeroValue0
 t3 := Tryz.underlying3
 a3 := Tryz.isAgg3
 z3 := Tryz.sizeOf3
 v3 := Tryz.zeroValue3
 t4 := Tryz.underlying4
 a4 := Tryz.isAgg4
 z4 := Tryz.sizeOf4
 v4 := Tryz.zeroValue4
 t5 := Tryz.underlying5
 a5 := Tryz.isAgg5
 z5 := Tryz.sizeOf5
 v5 := Tryz.zeroValue5
 t9 := Tryz.underlying9
 a9 := Tryz.isAgg9
 z9 := Tryz.sizeOf9
 v9 := Tryz.zeroValue9
 t22 := Tryz.underlying32
 a22 := Tryz.isAgg32
 z22 := Tryz.sizeOf32
 v22 := Tryz.zeroValue32
 t23 := Tryz.underlying32
 a23 := Tryz.isAgg32
 z23 := Tryz.sizeOf32
 v23 := Tryz.zeroValue32
 t25 := Tryz.underlying2
 a25 := Tryz.isAgg2
 z25 := Tryz.sizeOf2
 v25 := Tryz.zeroValue2
 t32 := Tryz.underlying243
 a32 := Tryz.isAgg243
 z32 := Tryz.sizeOf243
 v32 := Tryz.zeroValue243
 t35 := Tryz.underlying284
 a35 := Tryz.isAgg284
 z35 := Tryz.sizeOf284
 v35 := Tryz.zeroValue284
 t36 := Tryz.underlying285
 a36 := Tryz.isAgg285
 z36 := Tryz.sizeOf285
 v36 := Tryz.zeroValue285
 t41 := Tryz.underlying289
 a41 := Tryz.isAgg289
 z41 := Tryz.sizeOf289
 v41 := Tryz.zeroValue289
 t44 := Tryz.underlying292
 a44 := Tryz.isAgg292
 z44 := Tryz.sizeOf292
 v44 := Tryz.zeroValue292
 t46 := Tryz.underlying137
 a46 := Tryz.isAgg137
 z46 := Tryz.sizeOf137
 v46 := Tryz.zeroValue137
 t53 := Tryz.underlying327
 a53 := Tryz.isAgg327
 z53 := Tryz.sizeOf327
 v53 := Tryz.zeroValue327
 t57 := Tryz.underlying331
 a57 := Tryz.isAgg331
 z57 := Tryz.sizeOf331
 v57 := Tryz.zeroValue331
 t63 := Tryz.underlying352
 a63 := Tryz.isAgg352
 z63 := Tryz.sizeOf352
 v63 := Tryz.zeroValue352
 t64 := Tryz.underlying353
 a64 := Tryz.isAgg353
 z64 := Tryz.sizeOf353
 v64 := Tryz.zeroValue353 }
open Go.RowKit Go.Lib Go.Sort in
theorem Tryz.slices_Sort_int (blk off cap : Nat) (zs : List Int) (w : World) (hH : Holds (Value.int .i64) w blk off zs.toArray) (hblk : blk < w.heap.size) (hsz : zs.length < 4611686018427387904) :
  Calls Tryz.prog 160 #[.slice (some ⟨blk, off, none⟩) zs.length cap] w fun e w' =>
   e = .returned (.tuple #[]) ∧ ∃ n os, w' = grow (putRow (Value.int .i64) (Sort.ahead w n) blk off (zs.mergeSort fun x y => decide (x ≤ y)).toArray) os := AnyM.slices_Sort_int Tryz.laysSortI blk off cap zs w hH hblk hsz
open Go.RowKit Go.Lib Go.Sort in
theorem Tryz.slices_Sort_int_none (p : Option Addr) (cap : Nat) (w : World) :
  Calls Tryz.prog 160 #[.slice p 0 cap] w fun e w' => e = .returned (.tuple #[]) ∧ w' = w := AnyM.slices_Sort_int_none Tryz.laysSortI p cap w
end Go.Proofs
