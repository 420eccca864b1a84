/-
  Lemmas that the law of this claim leans on. Conditions: sizes.
-/
import Derived.Test.YtnhomkmfbngmgaaGreatDoorBaseA
import Derived.Test.YtnhomkmfbngmgaaGreatDoorBaseB
import Derived.Test.YtnhomkmfbngmgaaGreatDoorBaseC
import Derived.Lib.SliceRun
import Derived.Shelf.Strings.Builder1
import Derived.Shelf.Strings.Builder2
import Derived.Shelf.Strings.OnBuilder
import Derived.Shelf.Small.Bits
import Derived.Shelf.Small.Strs
import Derived.Shelf.Strings.BuilderF
import Derived.Shelf.Strings.BuilderK
import Derived.Shelf.Utf8.RuneCount
import Derived.Shelf.Strings.Builder2Cap
import Derived.Shelf.Strconv.Itoa0
import Derived.Shelf.Strconv.Itoa1
import Derived.Shelf.LaysM
import Derived.Shelf.Strconv.Itoa2
import Derived.Shelf.Strconv.Itoa3
import Derived.Shelf.Strconv.Itoa4
import Derived.Shelf.Strconv.ParseIntEmpty
import Derived.Shelf.Strconv.Clone
import Derived.Shelf.Strconv.SyntaxError
import Derived.Shelf.LaysC
import Derived.Shelf.Strconv.ToError
import Derived.Shelf.Strconv.Lower
import Derived.Shelf.Strconv.ParseUint10
import Derived.Shelf.Strconv.ParseUint10Empty
import Derived.Shelf.Strconv.ParseUint10Any
import Derived.Shelf.Strconv.ParseInt10
import Derived.Shelf.Strconv.RangeError
import Derived.Shelf.Strconv.ToErrorRange
import Derived.Shelf.Strconv.ParseUintEmpty
import Derived.Shelf.Strconv.ParseUint10b64
import Derived.Shelf.Strconv.ParseUint10b32
import Derived.Shelf.Strconv.ParseUint10b16
import Derived.Shelf.Strconv.ParseUint10b8
import Derived.Shelf.Strconv.ParseUint10At
import Derived.Shelf.Strconv.ParseInt10At64
import Derived.Shelf.Strconv.ParseInt10At32
import Derived.Shelf.Strconv.ParseInt10At16
import Derived.Shelf.Strconv.ParseInt10At8
import Derived.Shelf.Strconv.ParseInt10All
import Derived.Shelf.Strconv.ParseIntPublic10
import Derived.Shelf.Strconv.ErrVarParseInt
import Derived.Shelf.Strings.Search1
import Derived.Shelf.Strings.Search2
import Derived.Shelf.Strings.Search3
import Derived.Shelf.Strings.Cut
import Derived.Shelf.Strings.Count
import Derived.Shelf.Strings.Shaped
import Derived.Shelf.Strings.Prefix
import Derived.Shelf.Strings.Split
import Derived.Shelf.Strings.SplitShaped
import Derived.Shelf.Unicode.Decode
import Derived.Shelf.Strings.RuneCount
import Derived.Shelf.Strings.Explode
import Derived.Shelf.Bits.Mul64
import Derived.Shelf.Unicode.DecodeSlow
import Derived.Shelf.Unicode.DecodeAny
import Derived.Shelf.Strings.BuilderCap
import Derived.Shelf.Slices.Turned
import Derived.Shelf.Slices.Equal
import Derived.Ground.Names2Prog
import Derived.Shelf.Slices.Clone
import Derived.Shelf.Slices.CompactS
import Derived.Shelf.Slices.Cells
import Derived.Shelf.Slices.Empties2
import Derived.Ground.SlgnProg
import Derived.Shelf.SlicesG.Turned
import Derived.Shelf.SlicesG.Clone
import Derived.Shelf.SlicesG.CompactI
import Derived.Shelf.SlicesG.SearchI
import Derived.Shelf.SlicesG.Cells
import Derived.Shelf.SlicesE.Clone
import Derived.Ground.SlgcProg
import Derived.Shelf.SlicesG.Cmp
import Derived.Ground.SlsfProg
import Derived.Shelf.SlSortCmp.Insertion
import Derived.Ground.SlgmProg
import Derived.Shelf.SortM.Plain
import Derived.Shelf.SortM.SortNone
import Derived.Shelf.SlSortCmp.SiftDown1
import Derived.Shelf.SlSortCmp.HeapSort1
import Derived.Shelf.SlSortCmp.Insertion1
import Derived.Shelf.SlSortCmp.Median1
import Derived.Shelf.SlSortCmp.Pivot1
import Derived.Shelf.SlSortCmp.ReverseRange1
import Derived.Shelf.SlSortCmp.PartialInsertion1
import Derived.Shelf.SlSortCmp.PartitionEqual1
import Derived.Shelf.SlSortCmp.Partition1
import Derived.Shelf.SlSortCmp.Pdq1
import Derived.Shelf.SlSortCmp.Whole1
import Derived.Test.YtnhomkmfbngmgaaGreatDoorProg
import Derived.Shelf.SlSortCmp.NoneTotal
import Derived.Sort.EncStr
import Derived.Shelf.SlGeneric
import Derived.StillTailTactics
import Derived.Deep.LoopGhost
import Derived.Deep.RegionHeld
import Derived.Deep.RegionLaw
import Derived.Deep.RegionHeld3
import Derived.LaidMore
import Derived.LaidLaws
import Derived.HandedShaped
import Derived.Stop.LaidErr
import Derived.Lib.LaidTab
import Derived.Maps.OwnSet
import Derived.Maps.Views
import Derived.WideKeyPair
import Derived.DeepKeys4
import Derived.WalkArith
import Derived.Maps.RangeWalk
import Derived.Below
import Derived.Laws.EntriesVeiled
set_option maxHeartbeats 6400000
set_option maxRecDepth 100000
set_option linter.unusedSimpArgs false
set_option linter.unusedVariables false
namespace Go.Proofs.YtnhomkmfbngmgaaGreatDoor
open Go.ChangeShapes Go.WideShapes Go.ChangeAt Go.RowKit Go.Sort Go.Lib
theorem push3 (h : Array Obj) (a b o : Obj) : ((h.push a).push b).push o = h ++ #[a, b, o] := by
 apply Array.ext'
 simp
theorem grow3a (w : World) (a b o : Obj) : (((w.alloc a).alloc b).drew).alloc o = grow (w.drewN 1) #[a, b, o] := by
 unfold grow;rw [← push3]
 rfl
theorem grow3b (w : World) (a b o : Obj) : (((w.alloc a).alloc b).alloc o).drew = grow (w.drewN 1) #[a, b, o] := by
 unfold grow;rw [← push3]
 rfl
theorem compareEdgesG_calls (x1 x2 x3 y1 y2 y3 : Int) (w : World) :
  Calls Tryz.prog 122 #[.agg #[.int .i64 x1, .int .i64 x2, .int .i64 x3], .agg #[.int .i64 y1, .int .i64 y2, .int .i64 y3]] w fun e w' => e = .returned (.int .i64 (cmpE (x1, x2, x3) (y1, y2, y3))) ∧ ∃ q os, w' = grow (w.drewN q) os := by
 have hv : Hid (cmpE (x1, x2, x3) (y1, y2, y3) = orF [cmpI x1 y1, cmpI x2 y2, cmpI x3 y3]) := rfl;have hbA : Below w.heap.size w ((w.alloc (.cells #[.int .i64 x1, .int .i64 x2, .int .i64 x3] 84)).alloc (.cells #[.int .i64 y1, .int .i64 y2, .int .i64 y3] 84)) := (bR.alloc zR _).alloc (by simp only [World.size_alloc]; omega) _;have k0 := (Below.heap_alloc (w.alloc (.cells #[.int .i64 x1, .int .i64 x2, .int .i64 x3] 84)) (.cells #[.int .i64 y1, .int .i64 y2, .int .i64 y3] 84) w.heap.size (by simp only [World.size_alloc]; omega)).trans (heap_alloc_new w (.cells #[.int .i64 x1, .int .i64 x2, .int .i64 x3] 84));have k1 := heap_alloc_new (w.alloc (.cells #[.int .i64 x1, .int .i64 x2, .int .i64 x3] 84)) (.cells #[.int .i64 y1, .int .i64 y2, .int .i64 y3] 84);rw [World.size_alloc] at k1;have q := hide compare_calls;have hgr1 : Hid (∀ o : Obj, ∃ (q : Nat) (os : Array Obj), (((w.alloc (.cells #[.int .i64 x1, .int .i64 x2, .int .i64 x3] 84)).alloc (.cells #[.int .i64 y1, .int .i64 y2, .int .i64 y3] 84)).drew).alloc o = grow (w.drewN q) os) := fun o => ⟨1, _, grow3a w _ _ o⟩
 have hgr2 : Hid (∀ o : Obj, ∃ (q : Nat) (os : Array Obj), (((w.alloc (.cells #[.int .i64 x1, .int .i64 x2, .int .i64 x3] 84)).alloc (.cells #[.int .i64 y1, .int .i64 y2, .int .i64 y3] 84)).alloc o).drew = grow (w.drewN q) os) := fun o => ⟨1, _, grow3b w _ _ o⟩
 replace hbA := hide hbA;replace k0 := hide k0;replace k1 := hide k1;go_enter Tryz.func122, Tryz.ntmps122;go_wp2_with fail;generalize hW : ((w.alloc (.cells #[.int .i64 x1, .int .i64 x2, .int .i64 x3] 84)).alloc (.cells #[.int .i64 y1, .int .i64 y2, .int .i64 y3] 84)) = W at *;have a0 : W.cell? ⟨w.heap.size, 0, none⟩ = some (.int .i64 x1) := cR 0 k0.out;have a1 : W.cell? ⟨w.heap.size, 1, none⟩ = some (.int .i64 x2) := cR 1 k0.out;have a2 : W.cell? ⟨w.heap.size, 2, none⟩ = some (.int .i64 x3) := cR 2 k0.out;have b0 : W.cell? ⟨w.heap.size + 1, 0, none⟩ = some (.int .i64 y1) := cR 0 k1.out;have b1 : W.cell? ⟨w.heap.size + 1, 1, none⟩ = some (.int .i64 y2) := cR 1 k1.out;have b2 : W.cell? ⟨w.heap.size + 1, 2, none⟩ = some (.int .i64 y3) := cR 2 k1.out;clear hW
 go_region_held3 (fun w' => w'.cell? ⟨w.heap.size, 0, none⟩ = some (.int .i64 x1) ∧ w'.cell? ⟨w.heap.size, 1, none⟩ = some (.int .i64 x2) ∧ w'.cell? ⟨w.heap.size, 2, none⟩ = some (.int .i64 x3) ∧ w'.cell? ⟨w.heap.size + 1, 0, none⟩ = some (.int .i64 y1) ∧ w'.cell? ⟨w.heap.size + 1, 1, none⟩ = some (.int .i64 y2) ∧ w'.cell? ⟨w.heap.size + 1, 2, none⟩ = some (.int .i64 y3)) (first | exact ⟨a0, a1, a2, b0, b1, b2⟩ | go_keep)
  (first
   | (go_at_call 216; (with_reducible refine (q.out _ _ _).mono ?_); rintro e w' ⟨rfl, rfl⟩)
   | (go_at_call 215; (refine (or3_calls _ _ _ _ _ _ (by exact heap_alloc_new W _)).mono ?_); rintro e w' ⟨rfl, rfl⟩))
 all_goals go_wp2
 all_goals go_ret
 all_goals
  first
   | exact ⟨ret_i (by rw [hv.out]), hgr1.out _⟩
   | exact ⟨ret_i (by rw [hv.out]), hgr2.out _⟩
theorem ltOf_cmpE (a b : Ed) : ltOf cmpE a b = edLess a b := by
 have h := cmpE_less a b;unfold ltOf
 by_cases e : cmpE a b < 0
 ·rw [decide_eq_false (by omega)] at h
  have : edLess a b = true := by cases h2 : edLess a b <;> simp_all
  rw [this]; exact decide_eq_true e
 ·rw [decide_eq_true (by omega)] at h
  have : edLess a b = false := by cases h2 : edLess a b <;> simp_all
  rw [this]; exact decide_eq_false e
theorem swoE : SWO (ltOf cmpE) where
 irrefl x := by rw [ltOf_cmpE]; exact edLess_irr x
 trans x y z h1 h2 := by rw [ltOf_cmpE] at *; exact edLess_trans h1 h2
 ntrans x y z h1 h2 := by
  rw [ltOf_cmpE] at *
  by_cases e1 : x = y
  ·rw [e1]; exact h2
  ·by_cases e2 : y = z
   ·rw [← e2]; exact h1
   ·have g1 := (edLess_total e1).resolve_left (by rw [h1]; decide)
    have g2 := (edLess_total e2).resolve_left (by rw [h2]; decide);exact Bool.eq_false_iff.2 fun h => by
     have := edLess_trans (edLess_trans h g2) g1;rw [edLess_irr] at this; cases this
theorem apartE (x y : Ed) (h : ltOf cmpE x y = false) (g : ltOf cmpE y x = false) : x = y := by
 rw [ltOf_cmpE] at h g
 by_cases e : x = y
 ·exact e
 ·rcases edLess_total e with h1 | h1
  ·rw [h] at h1; cases h1
  ·rw [g] at h1; cases h1
def sortE (l : List Ed) : List Ed := l.mergeSort fun x y => !(ltOf cmpE) y x
theorem sortE_len (l : List Ed) : (sortE l).length = l.length := List.length_mergeSort _
theorem sortE_mem {l : List Ed} {x : Ed} : x ∈ sortE l ↔ x ∈ l := List.mem_mergeSort
theorem sortE_le (l : List Ed) : (sortE l).Pairwise fun x y => edLess y x = false := by
 have := List.pairwise_mergeSort (le := fun x y : Ed => !(ltOf cmpE) y x) (fun a b c h1 h2 => by
  simp only [Bool.not_eq_true', ltOf_cmpE] at *;exact Bool.eq_false_iff.2 fun h => by
   by_cases e : a = b
   ·rw [e] at h; rw [h] at h2; cases h2
   ·have g := (edLess_total e).resolve_right (by rw [h1]; decide)
    have := edLess_trans h g;rw [this] at h2; cases h2) (fun a b => by
  simp only [Bool.or_eq_true, Bool.not_eq_true', ltOf_cmpE]
  by_cases h : edLess b a = true
  ·right
   exact Bool.eq_false_iff.2 fun g => by
    have := edLess_trans h g;rw [edLess_irr] at this; cases this
  ·left; exact Bool.eq_false_iff.2 h) l
 exact this.imp fun h => by simpa [ltOf_cmpE] using h
section
variable {w : World} {base g n c q : Nat} {e : TypeId} {l d : List Ed} {os : Array Obj}
theorem flatE_get (d : List Ed) {j : Nat} (hj : j < d.length * 3) : (flatK ev 3 d.toArray)[j]? = (d.flatMap ev)[j]? := by
 have h1 : (flatK ev 3 d.toArray)[j]? = some ((flatK ev 3 d.toArray)[j]!) := by
  rw [getElem!_pos _ j (by simpa using hj), Array.getElem?_eq_getElem (by simpa using hj)]
 rw [h1, get_flatK ev 3 d.toArray j (by simpa using hj)];have hk : j / 3 < d.length := by omega
 have := flat_at flat_ev d (j / 3) d[j / 3] (List.getElem?_eq_getElem hk) (j % 3) ((ev d[j / 3])[j % 3]'(by rw [flat_ev.len]; omega)) (List.getElem?_eq_getElem _);rw [show j / 3 * 3 + j % 3 = j by omega] at this;rw [this, getElem!_pos _ (j / 3) (by simpa using hk)];simp only [List.getElem_toArray];rw [getElem!_pos _ (j % 3) (by rw [flat_ev.len]; omega)]
theorem Own.holdsE (h : Own 3 ev w base e (some ⟨g, 0, none⟩) n c l) : HoldsK ev 3 w g 0 l.toArray := by
 intro j hj;have hj' : j < l.length * 3 := by simpa using hj
 have hs := h.sl flat_ev;have hn := h.len;obtain ⟨b', off', e', -, -, -, hc⟩ := hs.at_ (by omega)
 cases e'
 have hk : j / 3 < l.length := by omega
 have h1 := flatE_get l hj';have h2 := flat_at flat_ev l (j / 3) l[j / 3] (List.getElem?_eq_getElem hk) (j % 3) ((ev l[j / 3])[j % 3]'(by rw [flat_ev.len]; omega)) (List.getElem?_eq_getElem _);rw [show j / 3 * 3 + j % 3 = j by omega] at h2;rw [h2] at h1;have h3 : (flatK ev 3 l.toArray)[j]! = (ev l[j / 3])[j % 3]'(by rw [flat_ev.len]; omega) := by
  rw [getElem!_pos _ j (by simpa using hj)];have := Array.getElem?_eq_getElem (xs := flatK ev 3 l.toArray) (i := j) (by simpa using hj);rw [this] at h1;exact Option.some.inj h1
 have := hc (j / 3) l[j / 3] (List.getElem?_eq_getElem hk) (j % 3) _ (List.getElem?_eq_getElem (by rw [flat_ev.len]; omega));rw [show j / 3 * 3 + j % 3 = j by omega] at this
 show w.cell? ⟨g, 0 + j, none⟩ = some (id ((flatK ev 3 l.toArray)[j]!)) ∧ _
 rw [h3];exact this
theorem putE_block (w : World) (g q : Nat) (F : Array Value) (os : Array Obj) (hg : g < w.heap.size) :
  (grow (putRow id (Sort.ahead w q) g 0 F) os).heap[g]? = (w.heap[g]?).map (onCells (Go.Sort.putCells id 0 F)) := by
 rw [heap_grow_old _ _ (by simpa [putRow, mapBlock, Sort.ahead] using hg)]
 simp [putRow, mapBlock, Sort.ahead, Array.getElem?_modify]
theorem putE_grown (w : World) (g q : Nat) (F : Array Value) (os : Array Obj) : w.grownBy (grow (putRow id (Sort.ahead w q) g 0 F) os) (some g) := by
 refine ⟨rfl, rfl, rfl, by simp [putRow, mapBlock, Sort.ahead], fun k hk hne => ?_⟩;rw [heap_grow_old _ _ (by simpa [putRow, mapBlock, Sort.ahead] using hk)];have hne' : g ≠ k := fun h => hne (by rw [h])
 simp [putRow, mapBlock, Sort.ahead, Array.getElem?_modify, hne']
theorem Own.putK (h : Own 3 ev w base e (some ⟨g, 0, none⟩) n c l) (hd : d.length = n) : Own 3 ev (sortWorldK ev 3 w g 0 q d.toArray os) base e (some ⟨g, 0, none⟩) n c d := by
 rcases h.2.2 with ⟨hv, -⟩ | ⟨g', cap, cur, hv, hb, hg, hnc, hcm, hcs, htake⟩
 ·cases hv
 ·cases hv
  have hlt : g < w.heap.size := (Array.getElem?_eq_some_iff.1 hg).1;refine ⟨hd, by rw [flat_length flat_ev, hd], .inr ⟨g, c, Go.Sort.putCells id 0 (flatK ev 3 d.toArray) cur, rfl, hb, ?_, hnc, hcm, by simp [Go.Sort.putCells, hcs], ?_⟩⟩
  ·unfold sortWorldK putRowK
   rw [putE_block _ _ _ _ _ hlt, hg]
   rfl
  ·apply List.ext_getElem?
   intro k
   by_cases hk : k < n * 3
   ·have hkc : k < cur.size := by omega
    rw [List.getElem?_take, if_pos hk, Array.getElem?_toList];simp only [Go.Sort.putCells, Array.getElem?_mapIdx, Array.getElem?_eq_getElem hkc, Option.map_some];rw [if_pos ⟨Nat.zero_le _, by simp [hd]; omega⟩, Nat.sub_zero];have := flatE_get d (j := k) (by rw [hd]; exact hk);rw [← this, Array.getElem?_eq_getElem (by simp [hd]; omega), getElem!_pos _ k (by simp [hd]; omega)]
    rfl
   ·rw [List.getElem?_eq_none (by simp; omega), List.getElem?_eq_none (by rw [flat_length flat_ev, hd]; omega)]
end
section
variable {w : World} {base n c : Nat} {A : Option Addr} {l : List Ed}
theorem sortE_calls (h : Own 3 ev w base 84 A n c l) (hn : n ≤ 1000000000) :
  Calls Tryz.prog 132 #[.slice A n c, .func (.func 122) #[] #[]] w fun e w' => e = .returned (.tuple #[]) ∧ Own 3 ev w' base 84 A n c (sortE l) ∧ w.grownBy w' (Value.slice A n c).ownBlock := by
 rcases h.2.2 with ⟨hv, hn0⟩ | ⟨g, cap, cur, hv, hb, hg, hnc, hcm, hcs, htake⟩
 ·cases hv
  have hl := List.eq_nil_of_length_eq_zero h.len;subst hl;refine (Tryz.slices_SortFunc_edge_none none 0 _ w).mono ?_;rintro e w' ⟨rfl, rfl⟩;refine ⟨rfl, ?_, ⟨rfl, rfl, rfl, zR, fun _ _ _ => rfl⟩⟩
  simpa [sortE] using h
 ·cases hv
  have hlt : g < w.heap.size := (Array.getElem?_eq_some_iff.1 hg).1;have eg : ∀ args w, (callFunc 122 args).run Tryz.prog w = .ok (.enter 122 args) w := enters_of Tryz.func122 (by kernel_rfl) rfl;have hsz : l.toArray.size = n := by simp [h.len]
  have hcmp : CmpLays Tryz.prog 122 #[] ev 3 cmpE g 0 l.toArray.size w := fun m os dk hs x y => compareEdgesG_calls x.1 x.2.1 x.2.2 y.1 y.2.1 y.2.2 _
  have hq := Tryz.slices_SortFunc_edge ev (fun x => flat_ev.len x) (fun x v hv => flat_ev.one x v hv) cmpE swoE 122 #[] g 0 c l.toArray w eg hcmp h.holdsE hlt (by rw [hsz]; omega) apartE;rw [hsz] at hq;refine hq.mono ?_;rintro e w' ⟨rfl, q, os, rfl⟩;exact ⟨rfl, h.putK (d := sortE l) ((sortE_len l).trans h.len), putE_grown _ _ _ _ _⟩
end
theorem setCells_heap9 (g : Nat) (e : TypeId) : ∀ (vs : List Value) (o : Nat) (w : World) (cur : Array Value), w.heap[g]? = some (.cells cur e (0, 0)) → ∃ cur' : Array Value, (w.setCells g o vs).heap[g]? = some (.cells cur' e (0, 0)) ∧ cur'.size = cur.size ∧ ∀ i, i < o → cur'[i]? = cur[i]?
 | [], o, w, cur, h => ⟨cur, h, rfl, fun _ _ => rfl⟩
 | v :: r, o, w, cur, h => by
  have h1 := heap_setCell_same w g o cur _ v h;obtain ⟨cur', a, b, c⟩ := setCells_heap9 g e r (o + 1) _ _ h1;refine ⟨cur', a, by rw [b]; simp, fun i hi => ?_⟩;rw [c i (by omega), Array.getElem?_setIfInBounds_ne (by omega)]
theorem setCells_only9 (g : Nat) : ∀ (vs : List Value) (o : Nat) (w : World), Only g (g + 1) w (w.setCells g o vs)
 | [], o, w => Only.refl _ _ _
 | v :: r, o, w => by
  have h1 := (Only.refl g (g + 1) w).setCell (p := ⟨g, o, none⟩) zR (Nat.lt_succ_self _) v;exact h1.trans' (setCells_only9 g r (o + 1) _)
theorem Own.clearE {w : World} {base g n c k : Nat} {e : TypeId} {l : List Ed} (h : Own 3 ev w base e (some ⟨g, 0, none⟩) n c l) (hk : k ≤ n) (vs : List Value) : Own 3 ev (w.setCells g (k * 3) vs) base e (some ⟨g, 0, none⟩) k c (l.take k) := by
 rcases h.2.2 with ⟨hv, -⟩ | ⟨g', cap, cur, hv, hb, hg, hnc, hcm, hcs, htake⟩
 ·cases hv
 ·cases hv
  have hn := h.len;have hl : (l.take k).length = k := by rw [List.length_take]; omega
  obtain ⟨cur', a, b, d⟩ := setCells_heap9 g e vs (k * 3) w cur hg;refine ⟨hl, by rw [flat_length flat_ev, hl], .inr ⟨g, c, cur', rfl, hb, a, by omega, hcm, by rw [b]; exact hcs, ?_⟩⟩
  apply List.ext_getElem?
  intro i
  by_cases hi : i < k * 3
  ·rw [List.getElem?_take, if_pos hi, Array.getElem?_toList, d i hi]
   have h1 : (cur.toList.take (n * 3))[i]? = (l.flatMap ev)[i]? := by rw [htake]
   rw [List.getElem?_take, if_pos (by omega), Array.getElem?_toList] at h1;rw [h1];have h2 : l.flatMap ev = (l.take k).flatMap ev ++ (l.drop k).flatMap ev := by rw [← List.flatMap_append, List.take_append_drop]
   rw [h2, List.getElem?_append_left (by rw [flat_length flat_ev, hl]; exact hi)]
  ·rw [List.getElem?_eq_none (by simp; omega), List.getElem?_eq_none (by rw [flat_length flat_ev, hl]; omega)]
theorem run_clearE (w : World) (ty : TypeId) (b o n c : Nat) (hn : 0 < n) (hc : ∀ j, j < n * 3 → (w.cell? ⟨b, o + j, none⟩).isSome = true) (hf : ∀ j, j < n * 3 → w.frozen? ⟨b, o + j, none⟩ = false) :
  (Builtin.clear_ #[25] ty #[.slice (some ⟨b, o, none⟩) n c]).run Tryz.prog w = .ok (.tuple #[]) (w.setCells b o (List.replicate (n * 3) (.int .i64 0))) := by
 have hv : ∀ w, (zeroValue 84).run Tryz.prog w = .ok (.agg #[.int .i64 0, .int .i64 0, .int .i64 0]) w := fun w => by kernel_rfl
 have hzc : (Builtin.zeroCells (Value.agg #[.int .i64 0, .int .i64 0, .int .i64 0]).cells n).toList = List.replicate (n * 3) (.int .i64 0) := by
  have e : (Value.agg #[.int .i64 0, .int .i64 0, .int .i64 0]).cells = #[.int .i64 0, .int .i64 0, .int .i64 0] := rfl;rw [e]
  apply List.ext_getElem
  ·simp [Builtin.zeroCells, Nat.mul_comm]
  ·intro i h1 h2
   simp only [Builtin.zeroCells, List.getElem_replicate];have : i % 3 = 0 ∨ i % 3 = 1 ∨ i % 3 = 2 := by omega
   rcases this with h | h | h <;> simp [h]
 have hst := run_storeCells_cells (P := Tryz.prog) b o (List.replicate (n * 3) (.int .i64 0)) 0 w (by simpa using hc) (by simpa using hf) (by intro v hv'; rw [List.eq_of_mem_replicate hv']; rfl);simp only [Nat.add_zero] at hst;obtain ⟨m, rfl⟩ : ∃ m, n = m + 1 := ⟨n - 1, by omega⟩
 simp [Builtin.clear_, run_underlying Tryz.underlying25, hv, hzc, hst]
theorem ed_cases (x1 x2 x3 y1 y2 y3 : Int) : (y1 = x1 ∧ y2 = x2 ∧ y3 = x3) ∨ (((x1, x2, x3) : Ed) ≠ (y1, y2, y3) ∧ ((x1 == y1) = false ∨ (y1 = x1 ∧ (x2 == y2) = false) ∨ (y1 = x1 ∧ y2 = x2 ∧ (x3 == y3) = false))) := by
 by_cases a : x1 = y1
 ·by_cases b : x2 = y2
  ·by_cases c : x3 = y3
   ·exact .inl ⟨a.symm, b.symm, c.symm⟩
   ·exact .inr ⟨fun e => c (by injection e with _ e; injection e with _ e), .inr (.inr ⟨a.symm, b.symm, beq_eq_false_iff_ne.2 c⟩)⟩
  ·exact .inr ⟨fun e => b (by injection e with _ e; injection e with e _), .inr (.inl ⟨a.symm, beq_eq_false_iff_ne.2 b⟩)⟩
 ·exact .inr ⟨fun e => a (by injection e with e _), .inl (beq_eq_false_iff_ne.2 a)⟩
theorem gete {l : List Ed} {k : Nat} {x : Ed} (h : l[k]? = some x) : l.toArray[k]! = x := by
 obtain ⟨h1, h2⟩ := List.getElem?_eq_some_iff.1 h;rw [getElem!_pos _ k (by simpa using h1)]
 simpa using h2
theorem only_grown {w w' : World} {g : Nat} (h : Only g (g + 1) w w') : w.grownBy w' (some g) := ⟨h.os, h.tape, h.output, h.size, fun k hk hne => h.block k hk (by
 have : g ≠ k := fun e => hne (by rw [e])
 omega)⟩
theorem cells_all {w : World} {base g n c j : Nat} {e : TypeId} {l : List Ed} (h : Own 3 ev w base e (some ⟨g, 0, none⟩) n c l) (hj : j < n * 3) :
  (w.cell? ⟨g, j, none⟩).isSome = true ∧ w.frozen? ⟨g, j, none⟩ = false := by
 obtain ⟨g', o', x1, x2, x3, ex, -, -, -, hx, c0, c1, c2, f0, f1, f2⟩ := SlE.get (h.sl flat_ev) (show j / 3 < n by omega)
 cases ex
 rw [Nat.zero_add] at c0 c1 c2 f0 f1 f2;have : j = j / 3 * 3 ∨ j = j / 3 * 3 + 1 ∨ j = j / 3 * 3 + 2 := by omega
 rcases this with e | e | e <;> rw [e]
 ·exact ⟨by rw [c0]; rfl, f0⟩
 ·exact ⟨by rw [c1]; rfl, f1⟩
 ·exact ⟨by rw [c2]; rfl, f2⟩
theorem _root_.Go.Lib.CompInv.takeE {l M : List Ed} {m kk n : Nat} (h : CompInv l.toArray m kk M.toArray) (hl : l.length = n) (hm : m = n) : M.take kk = Lib.compact l := by
 subst hm;have h1 : Lib.compact l = compactUpTo l.toArray m := by unfold compact; rw [hl]
 have h2 := h.size;have h3 := h.lt;simp only [List.size_toArray] at h2;rw [h1]
 apply List.ext_getElem?
 intro j
 by_cases hj : j < kk
 ·rw [h.low j hj, List.getElem?_take, if_pos hj, List.getElem?_eq_getElem (show j < M.length by omega), getElem!_pos _ j (by simp; omega)]
  simp
 ·rw [List.getElem?_eq_none (by simp; omega), List.getElem?_eq_none (by rw [h.len]; omega)]
theorem compactE_mem {l : List Ed} {x : Ed} : x ∈ Lib.compact l ↔ x ∈ l := by
 unfold Lib.compact Lib.compactUpTo;rw [List.mem_map]
 constructor
 ·rintro ⟨k, hk, rfl⟩
  have hk' := List.mem_range.1 (List.mem_filter.1 hk).1;rw [getElem!_pos _ k (by simpa using hk')]
  simp
 ·intro hx
  obtain ⟨k, hk, rfl⟩ := List.mem_iff_getElem.1 hx;have key : ∀ k, (hk : k < l.length) → ∃ a, a ∈ (List.range l.length).filter (Lib.keeps l.toArray) ∧ l.toArray[a]! = l[k] := by
   intro k
   induction k with
   | zero => exact fun hk => ⟨0, List.mem_filter.2 ⟨List.mem_range.2 hk, by simp [Lib.keeps]⟩, by rw [getElem!_pos _ 0 (by simpa using hk)]; simp⟩
   | succ k ih =>
    intro hk
    by_cases h : l.toArray[k + 1]! = l.toArray[k]!
    ·obtain ⟨a, ha, e⟩ := ih (by omega)
     refine ⟨a, ha, ?_⟩;rw [e];rw [getElem!_pos _ (k + 1) (by simpa using hk), getElem!_pos _ k (by simp; omega)] at h
     simpa using h.symm
    ·exact ⟨k + 1, List.mem_filter.2 ⟨List.mem_range.2 hk, Lib.keeps_pos (by simpa using h)⟩, by rw [getElem!_pos _ (k + 1) (by simpa using hk)]; simp⟩
  exact key k hk
theorem compactE_len (l : List Ed) : (Lib.compact l).length ≤ l.length := by
 unfold Lib.compact Lib.compactUpTo;rw [List.length_map];exact Nat.le_trans (List.length_filter_le _ _) (by simp)
theorem compactE_calls {w : World} {base n c : Nat} {A : Option Addr} {l : List Ed} (h : Own 3 ev w base 84 A n c l) (hn : n ≤ 1000000000) (hnc : n ≤ c) :
  Calls Tryz.prog 228 #[.slice A n c] w fun e w' => e = .returned (.slice A (Lib.compact l).length c) ∧ Own 3 ev w' base 84 A (Lib.compact l).length c (Lib.compact l) ∧ w.grownBy w' (Value.slice A n c).ownBlock := by
 have hll := h.len
 by_cases hn2 : n < 2
 ·have g1 : (n : Int) < 2 := by omega
  have hc0 : Lib.compact l = l := compact_all l fun j hj => by
   have : j = 0 := by omega
   subst this
   simp [keeps]
  rw [hc0, hll];replace h := hide h;go_enter Tryz.func228, Tryz.ntmps228;go_wp2_with fail;go_ret;exact ⟨rfl, h.out, ⟨rfl, rfl, rfl, zR, fun _ _ _ => rfl⟩⟩
 have g1 : ¬ (n : Int) < 2 := by omega
 have hEe := hide elem_edge;obtain ⟨g, rfl, hbg⟩ := h.neE (by omega);have hbl := (h.lt g rfl).2
 show Calls _ _ _ _ fun e w' => _ ∧ _ ∧ w.grownBy w' (some g)
 replace h := hide h;go_enter Tryz.func228, Tryz.ntmps228;go_wp2_with fail
 go_loopw [3] (fun v wr => ∃ u : Nat, u + 1 ≤ n ∧ v = .int .i64 ((u + 1 : Nat) : Int) ∧ Hid (∃ nq, wr = w.drewN nq) ∧ Hid (∀ j, j ≤ u → keeps l.toArray j = true)) (fun v _ => n - (intOf v).toNat)
 case atStart => exact ⟨0, by omega, rfl, ⟨0, rfl⟩, fun j hj => by
  have : j = 0 := by omega
  subst this
  simp [keeps]⟩
 case round =>
  obtain ⟨u, hu, rfl, hw, hall⟩ := hrel;have hO : Hid (Own 3 ev wr base 84 (some ⟨g, 0, none⟩) n c l) := by
   obtain ⟨nq, e⟩ := hw.out
   show Own _ _ _ _ _ _ _ _ _
   rw [e];exact h.out.keep fun _ _ => rfl
  by_cases hlt : u + 1 < n
  ·have k1 : ((u + 1 : Nat) : Int) < (n : Int) := by omega
   have k0 : (0 : Int) ≤ ((u + 1 : Nat) : Int) := by omega
   have hi1 : IntKind.i64.wrap (((u + 1 : Nat) : Int) - 1) = (u : Int) := by rw [IntWalk.i64_in _ (by omega)]; omega
   have hi2 : ((u + 1 : Nat) : Int) - 1 = (u : Int) := by omega
   have u0 : (0 : Int) ≤ (u : Int) := by omega
   have u1 : (u : Int) < (n : Int) := by omega
   obtain ⟨gx, ox, x1, x2, x3, ex, -, -, -, hx, c0, c1, c2, -⟩ := SlE.get (hO.out.sl flat_ev) hlt;obtain ⟨gy, oy, y1, y2, y3, ey, -, -, -, hy, d0, d1, d2, -⟩ := SlE.get (hO.out.sl flat_ev) (show u < n by omega)
   cases ex
   cases ey
   rw [Nat.zero_add] at c0 c1 c2 d0 d1 d2
   rcases ed_cases x1 x2 x3 y1 y2 y3 with ⟨e1, e2, e3⟩ | ⟨hne, hc⟩
   ·subst e1 e2 e3
    have hdup : Hid (keeps l.toArray (u + 1) = false) := keeps_neg (by omega) (by rw [gete hx]; exact (gete hy).symm);have hs1 : ∀ W : World, (Instr.slice 25 (.slice (some ⟨g, 0, none⟩) n c) (some (.int .i64 ((u + 1 : Nat) : Int))) none none).run Tryz.prog W = .ok (.slice (some ⟨g, (u + 1) * 3, none⟩) (n - (u + 1)) (c - (u + 1))) W := fun W => by
     rw [run_cut hEe.out _ n c (u + 1) (by omega) W];unfold cutA;rw [if_neg (by omega)]
     simp [Addr.add]
    go_upto_region 6 with fail;go_quiet (fail);obtain ⟨wi, hwi⟩ : ∃ wi, wi = wr.drewN nq := ⟨_, rfl⟩;have hOi : Hid (Own 3 ev wi base 84 (some ⟨g, 0, none⟩) n c l) := by rw [hwi]; exact hO.out.keep fun _ _ => rfl
    have hon : Hid (Only g (g + 1) w wi) := by
     obtain ⟨nq2, e⟩ := hw.out;rw [hwi, e];exact ⟨rfl, rfl, rfl, zR, fun _ _ _ => rfl⟩
    rw [← hwi];replace hwi := hide hwi;replace hx := hide hx;replace hy := hide hy;clear c0 c1 c2 d0 d1 d2 hO hw;go_wp2_with fail;obtain ⟨wQ, rfl⟩ : ∃ wQ : World, wQ = wr := ⟨_, rfl⟩
    go_loopw [3, 5] (fun v3 v5 wz => ∃ (kk v : Nat) (M : List Ed), v3 = .int .i64 (kk : Nat) ∧ v5 = .int .i64 ((v + 1 : Nat) : Int) ∧ u + 1 + v + 1 ≤ n ∧ Hid (Own 3 ev wz base 84 (some ⟨g, 0, none⟩) n c M) ∧ Hid (CompInv l.toArray (u + 1 + v + 1) kk M.toArray) ∧ Hid (Only g (g + 1) w wz)) (fun _ v _ => n - (intOf v).toNat)
    case atStart => exact ⟨u + 1, 0, l, rfl, rfl, by omega, hOi.out, CompInv.start (fun j hj => hall.out j (by omega)) hdup.out, hon.out⟩
    case round =>
     clear hOi hon;obtain ⟨kk, v, M, rfl, rfl, hv, hOM, hI, hon⟩ := hrel;have hMl := hOM.out.len;have hkm := hI.out.lt
     by_cases hlt2 : u + 1 + (v + 1) < n
     ·have k2 : ((v + 1 : Nat) : Int) < ((n - (u + 1) : Nat) : Int) := by omega
      have k20 : (0 : Int) ≤ ((v + 1 : Nat) : Int) := by omega
      have hi3 : IntKind.i64.wrap (((v + 1 : Nat) : Int) - 1) = (v : Int) := by rw [IntWalk.i64_in _ (by omega)]; omega
      have hi4 : ((v + 1 : Nat) : Int) - 1 = (v : Int) := by omega
      have v0 : (0 : Int) ≤ (v : Int) := by omega
      have v1 : (v : Int) < ((n - (u + 1) : Nat) : Int) := by omega
      have kk0 : (0 : Int) ≤ (kk : Int) := by omega
      have kk1 : (kk : Int) < (n : Int) := by omega
      have hki : IntKind.i64.wrap ((kk : Int) + 1) = ((kk + 1 : Nat) : Int) := by rw [IntWalk.i64_in _ (by omega)]; omega
      have hvi : IntKind.i64.wrap (((v + 1 : Nat) : Int) + 1) = ((v + 1 + 1 : Nat) : Int) := by rw [IntWalk.i64_in _ (by omega)]; omega
      obtain ⟨gx, ox, x1, x2, x3, ex, -, -, -, hx, c0, c1, c2, -⟩ := SlE.get (hOM.out.sl flat_ev) hlt2;obtain ⟨gy, oy, y1, y2, y3, ey, -, -, -, hy, d0, d1, d2, -⟩ := SlE.get (hOM.out.sl flat_ev) (show u + 1 + v < n by omega);obtain ⟨gz, oz, z1, z2, z3, ez, -, -, -, hz, z0c, z1c, z2c, z0f, z1f, z2f⟩ := SlE.get (hOM.out.sl flat_ev) (show kk < n by omega)
      cases ex
      cases ey
      cases ez
      rw [Nat.zero_add] at c0 c1 c2 d0 d1 d2 z0c z1c z2c z0f z1f z2f;rw [show (u + 1 + (v + 1)) * 3 = (u + 1) * 3 + (v + 1) * 3 from Nat.add_mul _ _ _] at c0 c1 c2;rw [show (u + 1 + v) * 3 = (u + 1) * 3 + v * 3 from Nat.add_mul _ _ _] at d0 d1 d2;have hx' : l.toArray[u + 1 + v + 1]! = (x1, x2, x3) := by
       rw [← hI.out.high (u + 1 + v + 1) (by omega)];exact gete hx
      have hy' : l.toArray[u + 1 + v]! = (y1, y2, y3) := by
       rw [← hI.out.high _ (by omega)];exact gete hy
      replace hx := hide hx;replace hy := hide hy;replace hz := hide hz;replace hx' := hide hx';replace hy' := hide hy'
      rcases ed_cases x1 x2 x3 y1 y2 y3 with ⟨e1, e2, e3⟩ | ⟨hne, hc⟩
      ·subst e1 e2 e3
       have hI2 : Hid (CompInv l.toArray (u + 1 + v + 1 + 1) kk M.toArray) := hI.out.skip (keeps_neg (by omega) (by rw [hx'.out, show u + 1 + v + 1 - 1 = u + 1 + v by omega]; exact hy'.out.symm));go_upto_region 11 with fail;go_quiet (fail);obtain ⟨wj, hwj⟩ : ∃ wj, wj = wr.drewN nq := ⟨_, rfl⟩;have hOj : Hid (Own 3 ev wj base 84 (some ⟨g, 0, none⟩) n c M) := by rw [hwj]; exact hOM.out.keep fun _ _ => rfl
       have hoj : Hid (Only g (g + 1) w wj) := by rw [hwj]; exact ⟨hon.out.os, hon.out.tape, hon.out.output, hon.out.size, hon.out.block⟩
       rw [← hwj];replace hwj := hide hwj;clear c0 c1 c2 d0 d1 d2 z0c z1c z2c z0f z1f z2f;go_wp2_with fail;go_roundw
       ·exact ⟨kk, v + 1, M, rfl, rfl, by omega, hOj.out, hI2.out, hoj.out⟩
       ·simp [intOf]; omega
      ·have hI2 : Hid (CompInv l.toArray (u + 1 + v + 1 + 1) (kk + 1) (M.set kk (x1, x2, x3)).toArray) := by
        have h1 := hI.out.keep (by simp; omega) (keeps_pos (by rw [hx'.out, show u + 1 + v + 1 - 1 = u + 1 + v by omega, hy'.out]; exact hne));rw [hx'.out, List.setIfInBounds_toArray] at h1;exact h1
       replace hne := hide hne
       rcases hc with e3 | ⟨e4, e3⟩ | ⟨e4, e5, e3⟩
       rotate_left
       subst e4
       rotate_left
       subst e4 e5
       rotate_left
       all_goals
        go_upto_region 11 with fail;go_quiet (fail);go_wp2_with fail;go_roundw
       all_goals
        first
         | refine ⟨kk + 1, v + 1, M.set kk (_, _, _), by go_num, by go_num, by omega, (hOM.out.keep fun _ _ => rfl).setE kk _ _ _, hI2.out, ?_⟩
         | (simp [intOf]; omega)
       all_goals
        have o1 : Only g (g + 1) w (wr.drewN nq) := ⟨hon.out.os, hon.out.tape, hon.out.output, hon.out.size, hon.out.block⟩;have o2 := fun v => o1.setCell (p := ⟨g, kk * 3, none⟩) zR (Nat.lt_succ_self _) v
        have o3 := fun v u => (o2 v).setCell (p := ⟨g, kk * 3 + 1, none⟩) zR (Nat.lt_succ_self _) u
        exact (o3 _ _).setCell (p := ⟨g, kk * 3 + 2, none⟩) zR (Nat.lt_succ_self _) _
     ·have hend : u + 1 + v + 1 = n := by omega
      have hcl := run_clearE wr 0 g (kk * 3) (n - kk) (c - kk) (by omega) (fun j hj => (cells_all hOM.out (j := kk * 3 + j) (by omega)).1) (fun j hj => (cells_all hOM.out (j := kk * 3 + j) (by omega)).2);have hcO := hide (hOM.out.clearE (k := kk) (by omega) (List.replicate ((n - kk) * 3) (.int .i64 0)));have hcon := hide (hon.out.trans' (setCells_only9 g (List.replicate ((n - kk) * 3) (.int .i64 0)) (kk * 3) wr));have hcL := hide (show M.take kk = Lib.compact l from hI.out.takeE hll hend);have hcn : (Lib.compact l).length = kk := by rw [← hcL.out, List.length_take]; omega
      have hs2 := run_head hEe.out (some ⟨g, 0, none⟩) n c kk (by omega);generalize wr.setCells g (kk * 3) (List.replicate ((n - kk) * 3) (.int .i64 0)) = wC at *;go_wp2_with fail;go_ret;have e1 := hcO.out;rw [hcL.out] at e1;rw [hcn];exact ⟨rfl, e1, only_grown hcon.out⟩
   ·have hkeep : Hid (∀ j, j ≤ u + 1 → keeps l.toArray j = true) := fun j hj => by
     by_cases e : j = u + 1
     ·subst e
      exact keeps_pos (by rw [gete hx]; simp only [Nat.add_sub_cancel]; rw [gete hy]; exact hne)
     ·exact hall.out j (by omega)
    replace hx := hide hx;replace hy := hide hy;replace hne := hide hne
    rcases hc with e3 | ⟨e4, e3⟩ | ⟨e4, e5, e3⟩
    rotate_left
    subst e4
    rotate_left
    subst e4 e5
    rotate_left
    all_goals
     go_upto_region 6 with fail;go_quiet (fail);obtain ⟨wi, hwi⟩ : ∃ wi, wi = wr.drewN nq := ⟨_, rfl⟩;have hw2 : Hid (∃ nq, wi = w.drewN nq) := by
      obtain ⟨nq2, e⟩ := hw.out;exact ⟨nq2 + nq, by rw [hwi, e, World.drewN_drewN]⟩
     rw [← hwi];replace hwi := hide hwi;clear c0 c1 c2 d0 d1 d2 e3;go_wp2_with fail;go_roundw
    all_goals
     first
      | exact ⟨u + 1, by omega, by go_num, hw2.out, hkeep.out⟩
      | (simp [intOf]; omega)
  ·obtain rfl : u + 1 = n := by omega
   have hcL : Lib.compact l = l := compact_all l fun j hj => hall.out j (by omega)
   have hon : Hid (w.grownBy wr (some g)) := by
    obtain ⟨nq, e⟩ := hw.out
    show w.grownBy wr (some g)
    rw [e];exact ⟨rfl, rfl, rfl, zR, fun _ _ _ => rfl⟩
   go_wp2_with fail;go_ret
   rw [hcL, hll];exact ⟨rfl, hO.out, hon.out⟩
end Go.Proofs.YtnhomkmfbngmgaaGreatDoor
namespace Go.Proofs
open Go.Shelf
def Tryz.lays106_ren : Go.Shelf.Ren := ⟨fun | 106 => 292 | 213 => 352 | 265 => 378 | n => n, fun | 9 => 9 | 3 => 3 | n => n, fun | n => n⟩
theorem Tryz.lays106 : Go.Proofs.Lays.n106 Tryz.prog Tryz.lays106_ren := {
 mixed := by kernel_rfl
 f106 := Tryz.func292.trans (congrArg some (by kernel_rfl))
 f213 := Tryz.func352.trans (congrArg some (by kernel_rfl))
 f265 := Tryz.func378.trans (congrArg some (by kernel_rfl))
 t3 := Tryz.underlying3
 a3 := Tryz.isAgg3
 z3 := Tryz.sizeOf3
 v3 := Tryz.zeroValue3
 t9 := Tryz.underlying9
 a9 := Tryz.isAgg9
 z9 := Tryz.sizeOf9
 v9 := Tryz.zeroValue9 }
open Go.RowKit in
theorem Tryz.strings_Compare (a b : ByteArray) (w : World) :
  Calls Tryz.prog 292 #[.string a, .string b] w fun e w' => e = .returned (.int .i64 (Lib.compareBytes a.data.toList b.data.toList)) ∧ w' = w := Any.strings_Compare Tryz.lays106 a b w
def Tryz.lays194_ren : Go.Shelf.Ren := ⟨fun | 194 => 227 | n => n, fun | 31 => 24 | 9 => 9 | 3 => 3 | 4 => 4 | 0 => 0 | n => n, fun | n => n⟩
theorem Tryz.lays194 : Go.Proofs.Lays.n194 Tryz.prog Tryz.lays194_ren := {
 mixed := by kernel_rfl
 f194 := Tryz.func227.trans (congrArg some (by kernel_rfl))
 t0 := Tryz.underlying0
 a0 := Tryz.isAgg0
 z0 := Tryz.sizeOf0
 v0 := Tryz.zeroValue0
 t3 := Tryz.underlying3
 a3 := Tryz.isAgg3
 z3 := Tryz.sizeOf3
 v3 := Tryz.zeroValue3
 t4 := Tryz.underlying4
 a4 := Tryz.isAgg4
 z4 := Tryz.sizeOf4
 v4 := Tryz.zeroValue4
 t9 := Tryz.underlying9
 a9 := Tryz.isAgg9
 z9 := Tryz.sizeOf9
 v9 := Tryz.zeroValue9
 t31 := Tryz.underlying24
 a31 := Tryz.isAgg24
 z31 := Tryz.sizeOf24
 v31 := Tryz.zeroValue24 }
open Go.RowKit Go.Lib Go.Sort in
theorem Tryz.slices_Compact_string (blk off cap : Nat) (zs : List (List UInt8)) (w : World) (hH : Holds encStr w blk off zs.toArray) (hsz : zs.length ≤ 9223372036854775807) (hcap : zs.length ≤ cap) :
  Calls Tryz.prog 227 #[.slice (some ⟨blk, off, none⟩) zs.length cap] w fun e w' => e = .returned (.slice (some ⟨blk, off, none⟩) (Lib.compact zs).length cap) ∧ ∃ q, w' = putRow encStr (Sort.ahead w q) blk off (Lib.compact zs ++ List.replicate (zs.length - (Lib.compact zs).length) []).toArray := Any.slices_Compact_string Tryz.lays194 blk off cap zs w hH hsz hcap
open Go.RowKit Go.Lib Go.Sort in
theorem Tryz.slices_Compact_string_empty (a : Option Addr) (cap : Nat) (w : World) :
  Calls Tryz.prog 227 #[.slice a 0 cap] w fun e w' => e = .returned (.slice a 0 cap) ∧ w' = w := Any.slices_Compact_string_empty Tryz.lays194 a cap w
end Go.Proofs
namespace Go.Proofs
open Go.Shelf
def Tryz.laysSortF_ren : Go.Shelf.Ren := ⟨fun | 6 => 225 | 15 => 224 | 14 => 291 | 28 => 289 | 29 => 290 | 20 => 344 | 21 => 345 | 22 => 346 | 23 => 347 | 24 => 348 | 25 => 349 | 26 => 350 | 27 => 351 | 46 => 375 | 47 => 340 | 48 => 341 | 49 => 376 | 50 => 377 | 57 => 386 | n => n, fun | 22 => 24 | 24 => 9 | 25 => 221 | 3 => 3 | 39 => 243 | 0 => 0 | 53 => 292 | 55 => 137 | 4 => 4 | 46 => 285 | 45 => 284 | 50 => 289 | 5 => 5 | 9 => 9 | 66 => 327 | 70 => 331 | 76 => 352 | 77 => 353 | n => n, fun | n => n⟩
theorem Tryz.laysSortF : Go.Proofs.SlLaysF.n6 Tryz.prog Tryz.laysSortF_ren := {
 mixed := by kernel_rfl
 f6 := ⟨Tryz.f225.name, by decide, Tryz.func225.trans (congrArg some (by kernel_rfl))⟩
 f14 := ⟨Tryz.f291.name, by decide, Tryz.func291.trans (congrArg some (by kernel_rfl))⟩
 f15 := Tryz.func224.trans (congrArg some (by kernel_rfl))
 f20 := ⟨Tryz.f344.name, by decide, Tryz.func344.trans (congrArg some (by kernel_rfl))⟩
 f21 := ⟨Tryz.f345.name, by decide, Tryz.func345.trans (congrArg some (by kernel_rfl))⟩
 f22 := ⟨Tryz.f346.name, by decide, Tryz.func346.trans (congrArg some (by kernel_rfl))⟩
 f23 := ⟨Tryz.f347.name, by decide, Tryz.func347.trans (congrArg some (by kernel_rfl))⟩
 f24 := ⟨Tryz.f348.name, by decide, Tryz.func348.trans (congrArg some (by kernel_rfl))⟩
 f25 := ⟨Tryz.f349.name, by decide, Tryz.func349.trans (congrArg some (by kernel_rfl))⟩
 f26 := ⟨Tryz.f350.name, by decide, Tryz.func350.trans (congrArg some (by kernel_rfl))⟩
 f27 := ⟨Tryz.f351.name, by decide, Tryz.func351.trans (congrArg some (by kernel_rfl))⟩
 f28 := Tryz.func289.trans (congrArg some (by kernel_rfl))
 f29 := Tryz.func290.trans (congrArg some (by kernel_rfl))
 f46 := ⟨Tryz.f375.name, by decide, Tryz.func375.trans (congrArg some (by kernel_rfl))⟩
 f47 := Tryz.func340.trans (congrArg some (by kernel_rfl))
 f48 := Tryz.func341.trans (congrArg some (by kernel_rfl))
 f49 := ⟨Tryz.f376.name, by decide, Tryz.func376.trans (congrArg some (by kernel_rfl))⟩
 f50 := ⟨Tryz.f377.name, by decide, Tryz.func377.trans (congrArg some (by kernel_rfl))⟩
 f57 := ⟨Tryz.f386.name, by decide, Tryz.func386.trans (congrArg some (by kernel_rfl))⟩
 t0 := Tryz.underlying0
 a0 := Tryz.isAgg0
 z0 := Tryz.sizeOf0
 v0 := Tryz.zeroValue0
 t3 := Tryz.underlying3
 a3 := Tryz.isAgg3
 z3 := Tryz.sizeOf3
 v3 := Tryz.zeroValue3
 t4 := Tryz.underlying4
 a4 := Tryz.isAgg4
 z4 := Tryz.sizeOf4
 v4 := Tryz.zeroValue4
 t5 := Tryz.underlying5
 a5 := Tryz.isAgg5
 z5 := Tryz.sizeOf5
 v5 := Tryz.zeroValue5
 t9 := Tryz.underlying9
 a9 := Tryz.isAgg9
 z9 := Tryz.sizeOf9
 v9 := Tryz.zeroValue9
 t22 := Tryz.underlying24
 a22 := Tryz.isAgg24
 z22 := Tryz.sizeOf24
 v22 := Tryz.zeroValue24
 a24 := Tryz.isAgg9
 z24 := Tryz.sizeOf9
 t25 := Tryz.underlying221
 a25 := Tryz.isAgg221
 z25 := Tryz.sizeOf221
 v25 := Tryz.zeroValue221
 t39 := Tryz.underlying243
 a39 := Tryz.isAgg243
 z39 := Tryz.sizeOf243
 v39 := Tryz.zeroValue243
 t45 := Tryz.underlying284
 a45 := Tryz.isAgg284
 z45 := Tryz.sizeOf284
 v45 := Tryz.zeroValue284
 t46 := Tryz.underlying285
 a46 := Tryz.isAgg285
 z46 := Tryz.sizeOf285
 v46 := Tryz.zeroValue285
 t50 := Tryz.underlying289
 a50 := Tryz.isAgg289
 z50 := Tryz.sizeOf289
 v50 := Tryz.zeroValue289
 t53 := Tryz.underlying292
 a53 := Tryz.isAgg292
 z53 := Tryz.sizeOf292
 v53 := Tryz.zeroValue292
 t55 := Tryz.underlying137
 a55 := Tryz.isAgg137
 z55 := Tryz.sizeOf137
 v55 := Tryz.zeroValue137
 t66 := Tryz.underlying327
 a66 := Tryz.isAgg327
 z66 := Tryz.sizeOf327
 v66 := Tryz.zeroValue327
 t70 := Tryz.underlying331
 a70 := Tryz.isAgg331
 z70 := Tryz.sizeOf331
 v70 := Tryz.zeroValue331
 t76 := Tryz.underlying352
 a76 := Tryz.isAgg352
 z76 := Tryz.sizeOf352
 v76 := Tryz.zeroValue352
 t77 := Tryz.underlying353
 a77 := Tryz.isAgg353
 z77 := Tryz.sizeOf353
 v77 := Tryz.zeroValue353 }
open Go.Shelf Go.RowKit Go.Lib Go.Sort in
theorem Tryz.slices_SortFunc_string (cf : List UInt8 → List UInt8 → Int) (hO : SWO (ltOf cf)) (g : Nat) (cb : Array Value) (blk off cap : Nat) (d : Array (List UInt8)) (w : World) (eg : ∀ args w, (callFunc g args).run Tryz.prog w = .ok (.enter g args) w) (hcmp : CmpLays1 Tryz.prog g cb encStr cf blk off d.size w) (hH : Holds encStr w blk off d) (hblk : blk < w.heap.size) (hsz : d.size < 4611686018427387904) (hT : ∀ x y, (ltOf cf) x y = false → (ltOf cf) y x = false → x = y) :
  Calls Tryz.prog 225 #[.slice (some ⟨blk, off, none⟩) d.size cap, .func (.func g) #[] cb] w fun e w' =>
   e = .returned (.tuple #[]) ∧ ∃ n os, w' = sortWorld encStr w blk off n (d.toList.mergeSort fun x y => !(ltOf cf) y x).toArray os := Any.slices_SortFunc_total Tryz.laysSortF encStr (fun _ => rfl) cf hO g cb blk off cap d w eg hcmp hH hblk hsz hT
open Go.Shelf Go.RowKit Go.Lib Go.Sort in
theorem Tryz.slices_SortFunc_string_none (p : Option Addr) (cap : Nat) (fv : Value) (w : World) :
  Calls Tryz.prog 225 #[.slice p 0 cap, fv] w fun e w' => e = .returned (.tuple #[]) ∧ w' = w := AnyF.slices_SortFunc_none { Tryz.laysSortF with } p cap fv w
end Go.Proofs
namespace Go.Proofs.YtnhomkmfbngmgaaGreatDoor
abbrev Rel2 := Int → Int → Prop
def getM (M : List (List Bool)) (x y : Nat) : Option Bool := M[x]?.bind fun r => r[y]?
def ChM (b : Bool) (M : List (List Bool)) (x y : Int) : Prop := 0 ≤ x ∧ 0 ≤ y ∧ getM M x.toNat y.toNat = some (!b)
def ClosedTo (b : Bool) (p : Nat) (F : Rel2 → Rel2) (M : List (List Bool)) (x y : Nat) : Prop := ∀ u v : Nat, v < p → (u < x ∨ u = x ∧ v < y) → F (ChM b M) (u : Int) (v : Int) → ChM b M (u : Int) (v : Int)
theorem ClosedTo.row {b : Bool} {p : Nat} {F : Rel2 → Rel2} {M : List (List Bool)} {x : Nat} (h : ClosedTo b p F M x p) : ClosedTo b p F M (x + 1) 0 := fun u v hv hl => h u v hv (by omega)
inductive TauC (es : List Ed) (ls : List ByteArray) (P : Int → Prop) : Int → Prop where
 | base {v : Int} (h : P v) : TauC es ls P v
 | step {e : Ed} (h : TauC es ls P e.1) (he : e ∈ es) (hl : ls[e.2.1.toNat]? = some tauB) : TauC es ls P e.2.2
theorem TauC.imp {es : List Ed} {ls : List ByteArray} {P Q : Int → Prop} (h : ∀ v, P v → Q v) {v : Int} (hv : TauC es ls P v) : TauC es ls Q v := by
 induction hv with
 | base h1 => exact .base (h _ h1)
 | step _ he hl ih => exact .step ih he hl
theorem TauC.congr {es : List Ed} {ls : List ByteArray} {P Q : Int → Prop} (h : ∀ v, P v ↔ Q v) (v : Int) : TauC es ls P v ↔ TauC es ls Q v := ⟨TauC.imp fun v => (h v).1, TauC.imp fun v => (h v).2⟩
open Go.Lib Go.Sort
theorem cb_less : ∀ a b : List UInt8, Lib.compareBytes a b < 0 ↔ Op.bytesLess a b = true
 | [], [] => by simp [Lib.compareBytes, Op.bytesLess]
 | [], _ :: _ => by simp [Lib.compareBytes, Op.bytesLess]
 | _ :: _, [] => by simp [Lib.compareBytes, Op.bytesLess]
 | x :: a, y :: b => by
  have ih := cb_less a b;unfold Lib.compareBytes Op.bytesLess
  by_cases h1 : x < y
  ·simp [h1]
  ·by_cases h2 : y < x
   ·have h3 : ¬ x = y := fun e => by subst e; exact h1 h2
    simp [h1, h2, h3]
   ·have h3 : x = y := by
     rw [UInt8.lt_iff_toNat_lt] at h1 h2;exact UInt8.toNat_inj.1 (by omega)
    subst h3
    simp [h1, ih]
theorem bl_cases (a b : List UInt8) : Op.bytesLess a b = true ∨ a = b ∨ Op.bytesLess b a = true := by
 have := bytesLess_total a b
 by_cases h1 : Op.bytesLess a b = true
 ·exact .inl h1
 ·by_cases h2 : a = b
  ·exact .inr (.inl h2)
  ·have h3 : (a == b) = false := by simpa using h2
   rw [Bool.eq_false_iff.2 h1, h3] at this;exact .inr (.inr this.symm)
def tauBL : List UInt8 := [116, 97, 117]
def cmpB (x y : List UInt8) : Int := if x = y then 0 else if x = tauBL then -1 else if y = tauBL then 1 else Lib.compareBytes x y
abbrev ltL := ltOf cmpB
theorem ltL_iff (x y : List UInt8) : ltL x y = true ↔ x ≠ y ∧ (x = tauBL ∨ (y ≠ tauBL ∧ Op.bytesLess x y = true)) := by
 unfold ltL ltOf cmpB;rw [decide_eq_true_eq]
 by_cases h1 : x = y
 ·simp [h1]
 ·by_cases h2 : x = tauBL
  ·rw [if_neg h1, if_pos h2]
   exact ⟨fun _ => ⟨h1, .inl h2⟩, fun _ => by omega⟩
  ·by_cases h3 : y = tauBL
   ·rw [if_neg h1, if_neg h2, if_pos h3]
    exact ⟨fun h => by omega, fun ⟨_, h⟩ => by rcases h with h | h; exact absurd h h2; exact absurd h3 h.1⟩
   ·rw [if_neg h1, if_neg h2, if_neg h3, cb_less]
    exact ⟨fun h => ⟨h1, .inr ⟨h3, h⟩⟩, fun ⟨_, h⟩ => by rcases h with h | h; exact absurd h h2; exact h.2⟩
theorem ltL_total (x y : List UInt8) : ltL x y = true ∨ x = y ∨ ltL y x = true := by
 rw [ltL_iff, ltL_iff]
 by_cases h1 : x = y
 ·exact .inr (.inl h1)
 ·by_cases h2 : x = tauBL
  ·exact .inl ⟨h1, .inl h2⟩
  ·by_cases h3 : y = tauBL
   ·exact .inr (.inr ⟨fun e => h1 e.symm, .inl h3⟩)
   ·rcases bl_cases x y with h | h | h
    ·exact .inl ⟨h1, .inr ⟨h3, h⟩⟩
    ·exact absurd h h1
    ·exact .inr (.inr ⟨fun e => h1 e.symm, .inr ⟨h2, h⟩⟩)
theorem ltL_irr (x : List UInt8) : ltL x x = false := Bool.eq_false_iff.2 fun h => ((ltL_iff x x).1 h).1 rfl
theorem ltL_trans {x y z : List UInt8} (h : ltL x y = true) (g : ltL y z = true) : ltL x z = true := by
 rw [ltL_iff] at h g ⊢;obtain ⟨h1, h2⟩ := h;obtain ⟨g1, g2⟩ := g
 rcases h2 with h2 | ⟨h2, h3⟩
 ·refine ⟨fun e => ?_, .inl h2⟩
  rcases g2 with g2 | ⟨g2, g3⟩
  ·exact h1 (h2.trans g2.symm)
  ·exact g2 (e.symm.trans h2)
 ·rcases g2 with g2 | ⟨g2, g3⟩
  ·exact absurd g2 h2
  ·refine ⟨fun e => ?_, .inr ⟨g2, bytesLess_trans h3 g3⟩⟩
   subst e;have := bytesLess_trans h3 g3;rw [bytesLess_irrefl] at this
   cases this
theorem ltL_asym {x y : List UInt8} (h : ltL x y = true) (g : ltL y x = true) : False := by
 have := ltL_trans h g;rw [ltL_irr] at this
 cases this
theorem swoL : SWO ltL where
 irrefl := ltL_irr
 trans x y z h g := ltL_trans h g
 ntrans x y z h g := Bool.eq_false_iff.2 fun k => by
  rcases ltL_total y x with h1 | h1 | h1
  ·have := ltL_trans h1 k
   rw [g] at this
   cases this
  ·subst h1
   rw [g] at k
   cases k
  ·rw [h] at h1
   cases h1
theorem apartL (x y : List UInt8) (h : ltL x y = false) (g : ltL y x = false) : x = y := by
 rcases ltL_total x y with h1 | h1 | h1
 ·rw [h] at h1; cases h1
 ·exact h1
 ·rw [g] at h1; cases h1
theorem rise_ext {α : Type} {r : α → α → Prop} (irr : ∀ a, ¬ r a a) (asy : ∀ a b, r a b → r b a → False) : ∀ {l m : List α}, l.Pairwise r → m.Pairwise r → (∀ x, x ∈ l ↔ x ∈ m) → l = m
 | [], [], _, _, _ => rfl
 | [], b :: m, _, _, h => by have := (h b).2 (List.mem_cons_self ..); cases this
 | a :: l, [], _, _, h => by have := (h a).1 (List.mem_cons_self ..); cases this
 | a :: l, b :: m, hl, hm, h => by
  obtain ⟨l1, l2⟩ := List.pairwise_cons.1 hl;obtain ⟨m1, m2⟩ := List.pairwise_cons.1 hm;have hab : a = b := by
   rcases List.mem_cons.1 ((h a).1 (List.mem_cons_self ..)) with e | e
   ·exact e
   ·rcases List.mem_cons.1 ((h b).2 (List.mem_cons_self ..)) with e2 | e2
    ·exact e2.symm
    ·exact (asy _ _ (l1 b e2) (m1 a e)).elim
  subst hab
  congr 1
  refine rise_ext irr asy l2 m2 fun x => ⟨fun hx => ?_, fun hx => ?_⟩
  ·rcases List.mem_cons.1 ((h x).1 (List.mem_cons_of_mem _ hx)) with e | e
   ·subst e; exact (irr _ (l1 _ hx)).elim
   ·exact e
  ·rcases List.mem_cons.1 ((h x).2 (List.mem_cons_of_mem _ hx)) with e | e
   ·subst e; exact (irr _ (m1 _ hx)).elim
   ·exact e
theorem compactL_mem {l : List (List UInt8)} {x : List UInt8} : x ∈ Lib.compact l ↔ x ∈ l := by
 unfold Lib.compact Lib.compactUpTo;rw [List.mem_map]
 constructor
 ·rintro ⟨k, hk, rfl⟩
  have hk' := List.mem_range.1 (List.mem_filter.1 hk).1;rw [getElem!_pos _ k (by simpa using hk')]
  simp
 ·intro hx
  obtain ⟨k, hk, rfl⟩ := List.mem_iff_getElem.1 hx;have key : ∀ k, (hk : k < l.length) → ∃ a, a ∈ (List.range l.length).filter (Lib.keeps l.toArray) ∧ l.toArray[a]! = l[k] := by
   intro k
   induction k with
   | zero => exact fun hk => ⟨0, List.mem_filter.2 ⟨List.mem_range.2 hk, by simp [Lib.keeps]⟩, by rw [getElem!_pos _ 0 (by simpa using hk)]; simp⟩
   | succ k ih =>
    intro hk
    by_cases h : l.toArray[k + 1]! = l.toArray[k]!
    ·obtain ⟨a, ha, e⟩ := ih (by omega)
     refine ⟨a, ha, ?_⟩;rw [e];rw [getElem!_pos _ (k + 1) (by simpa using hk), getElem!_pos _ k (by simp; omega)] at h
     simpa using h.symm
    ·exact ⟨k + 1, List.mem_filter.2 ⟨List.mem_range.2 hk, Lib.keeps_pos (by simpa using h)⟩, by rw [getElem!_pos _ (k + 1) (by simpa using hk)]; simp⟩
  exact key k hk
theorem compact_rise {l : List (List UInt8)} (h : l.Pairwise fun x y => ltL y x = false) : (Lib.compact l).Pairwise fun x y => ltL x y = true := by
 unfold Lib.compact Lib.compactUpTo;rw [List.pairwise_map];refine List.Pairwise.imp_of_mem (fun {p q} hp hq hpq => ?_) (List.Pairwise.filter _ (List.pairwise_lt_range (n := l.length)));obtain ⟨hp1, -⟩ := List.mem_filter.1 hp;obtain ⟨hq1, hq2⟩ := List.mem_filter.1 hq;have hp1 := List.mem_range.1 hp1;have hq1 := List.mem_range.1 hq1;unfold Lib.keeps at hq2;rw [decide_eq_true_eq] at hq2;have hne : l.toArray[q]! ≠ l.toArray[q - 1]! := hq2.resolve_left (by omega);rw [getElem!_pos _ q (by simpa using hq1), getElem!_pos _ (q - 1) (by simp; omega)] at hne;rw [getElem!_pos _ p (by simpa using hp1), getElem!_pos _ q (by simpa using hq1)];simp only [List.getElem_toArray] at hne ⊢;have h1 := List.pairwise_iff_getElem.1 h (q - 1) q (by omega) hq1 (by omega);have h2 : ltL l[q - 1] l[q] = true := by
  rcases ltL_total l[q - 1] l[q] with g | g | g
  ·exact g
  ·exact absurd g.symm hne
  ·rw [h1] at g; cases g
 by_cases e : p = q - 1
 ·subst e; exact h2
 ·have h3 := List.pairwise_iff_getElem.1 h p (q - 1) hp1 (by omega) (by omega)
  rcases ltL_total l[p] l[q - 1] with g | g | g
  ·exact ltL_trans g h2
  ·rw [g]; exact h2
  ·rw [h3] at g; cases g
theorem sortL_rise (l : List (List UInt8)) : (l.mergeSort fun x y => !(ltL y x)).Pairwise fun x y => ltL y x = false := by
 refine (List.pairwise_mergeSort (le := fun x y => !(ltL y x)) (fun a b c h g => ?_) (fun a b => ?_) l).imp fun {a b} h => ?_
 ·simp only [Bool.not_eq_true'] at h g ⊢
  exact swoL.ntrans c b a g h
 ·cases h : ltL b a with
  | false => simp [h]
  | true =>
   have : ltL a b = false := Bool.eq_false_iff.2 fun g => ltL_asym h g
   simp [this]
 ·simpa using h
def toL (s : ByteArray) : List UInt8 := s.data.toList
def ofL (l : List UInt8) : ByteArray := ⟨l.toArray⟩
theorem ofL_toL (s : ByteArray) : ofL (toL s) = s := by unfold ofL toL; rfl
theorem toL_ofL (l : List UInt8) : toL (ofL l) = l := by unfold ofL toL; simp
theorem toL_eq (s : ByteArray) : s.toList = toL s := by
 obtain ⟨⟨x⟩⟩ := s;exact ByteArray.toList_mk x
theorem toL_inj {a b : ByteArray} (h : toL a = toL b) : a = b := by rw [← ofL_toL a, h, ofL_toL]
theorem toL_tau : toL tauB = tauBL := by rw [← toL_eq, tau_list]; rfl
theorem labs_rise {ls : List ByteArray} (h : namesB ls = true) {i j : Nat} {x y : ByteArray} (hi : ls[i]? = some x) (hj : ls[j]? = some y) (hij : i < j) : ltL (toL x) (toL y) = true := by
 unfold namesB at h;rw [Bool.and_eq_true] at h;have hall : ∀ k, k < ls.length → okL ls k = true := fun k hk => allK_get h.2 hk
 have hlt : ∀ {k : Nat} {y : ByteArray}, ls[k]? = some y → k < ls.length := fun hk => (List.getElem?_eq_some_iff.1 hk).1
 have nt : ∀ {k : Nat} {y : ByteArray}, ls[k]? = some y → 0 < k → y ≠ tauB ∧ ∀ r, ls[k - 1]? = some r → 1 < k → Op.bytesLess r.toList y.toList = true := by
  intro k y hy h0;have hk := hall k (hlt hy);have hr : ls[k - 1]? = some (ls[k - 1]'(by have := hlt hy; omega)) := List.getElem?_eq_getElem _;rw [okL_at hy h0 hr] at hk;simp only [Bool.and_eq_true, Bool.not_eq_true', decide_eq_false_iff_not, Bool.or_eq_true, decide_eq_true_eq] at hk;refine ⟨hk.1.2, fun r hr2 h1 => ?_⟩;rw [hr] at hr2;have := Option.some.inj hr2;subst this
  rcases hk.2 with h2 | h2
  ·omega
  ·exact h2
 have hy := nt hj (by omega);have hyt : toL y ≠ tauBL := fun e => hy.1 (toL_inj (e.trans toL_tau.symm))
 rw [ltL_iff]
 by_cases h0 : i = 0
 ·subst h0
  have hx := hall 0 (hlt hi);rw [okL_zero hi] at hx;have : x = tauB := by simpa using hx
  subst this;exact ⟨fun e => hyt (by rw [← e, toL_tau]), .inl toL_tau⟩
 ·have up : ∀ d : Nat, ∀ z, ls[i + (d + 1)]? = some z → Op.bytesLess (toL x) (toL z) = true := by
   intro d
   induction d with
   | zero =>
    intro z hz;have := (nt hz (by omega)).2 x (by rw [show i + (0 + 1) - 1 = i by omega]; exact hi) (by omega)
    rwa [toL_eq, toL_eq] at this
   | succ d ih =>
    intro z hz;have hr : ls[i + (d + 1)]? = some (ls[i + (d + 1)]'(by have := hlt hz; omega)) := List.getElem?_eq_getElem _;have h1 := ih _ hr;have h2 := (nt hz (by omega)).2 _ (by rw [show i + (d + 1 + 1) - 1 = i + (d + 1) by omega]; exact hr) (by omega);rw [toL_eq, toL_eq] at h2;exact bytesLess_trans h1 h2
  have h1 := up (j - i - 1) y (by rw [show i + (j - i - 1 + 1) = j by omega]; exact hj);refine ⟨fun e => ?_, .inr ⟨hyt, h1⟩⟩;rw [e, bytesLess_irrefl] at h1
  cases h1
end Go.Proofs.YtnhomkmfbngmgaaGreatDoor
namespace Go.Proofs.YtnhomkmfbngmgaaGreatDoor
open Go.ChangeShapes Go.WideShapes Go.ChangeAt Go.RowKit Go.Sort
def anyL (ls : List ByteArray) (lab : ByteArray) : Bool := ls.any (fun x => decide (x = lab))
theorem str_list_ne3 {a b : ByteArray} (h : ¬ a = b) : (b.toList == a.toList) = false ∧ ¬ b.toList = a.toList := by
 have h1 := str_neq (a := b) (b := a) (fun e => h e.symm);exact ⟨h1, fun e => by rw [e, beq_self_eq_true] at h1; cases h1⟩
def FindI (l : List ByteArray) (s : ByteArray) (i : Int) : Prop := (i = -1 ∧ anyL l s = false) ∨ ∃ k : Nat, i = (k : Int) ∧ l[k]? = some s ∧ anyL l s = true
theorem l11Find_calls (s : ByteArray) (A : Option Addr) (n c : Nat) (l : List ByteArray) (w : World) (lo hi : Nat) (h : SlS w lo hi A n l) (hn : n ≤ 1048576) :
  Calls Tryz.prog 174 #[.slice A n c, .string s] w fun e w' => ∃ i : Int, e = .returned (.int .i64 i) ∧ FindI l s i ∧ w = w' := by
 have hlen := hide h.len;go_enter Tryz.func174, Tryz.ntmps174
 go_wp2
 go_loop [5] (fun i => ∃ k : Nat, k ≤ n ∧ i = .int .i64 k ∧ Hid ((l.take k).any (fun x => decide (x = s)) = false)) (fun i => n - (intOf i).toNat)
 case atStart => exact ⟨0, Nat.zero_le _, rfl, rfl⟩
 case round =>
  obtain ⟨k, hk, rfl, ha⟩ := hrel
  by_cases hlt : k < n
  ·obtain ⟨b, off, x, rfl, g1, g2, g3, hx, c0, -⟩ := SlS.get h hlt
   clear h
   by_cases hq : x = s
   ·subst hq
    have hy : Hid (FindI l x (k : Int)) := .inr ⟨k, rfl, hx, any_hit (G := fun y => decide (y = x)) hx (decide_eq_true rfl)⟩;have hself : (x.toList == x.toList) = true := beq_self_eq_true _;clear hx
    go_wp2
    go_ret;exact ⟨_, rfl, hy.out, rfl⟩
   ·have hy := hide (any_take_succ ha.out hx (decide_eq_false hq))
    obtain ⟨hne, hne2⟩ := str_list_ne3 hq;have hne3 : (x.toList == s.toList) = false := by
     have := str_neq (a := x) (b := s) hq;exact this
    have hne4 : ¬ x.toList = s.toList := fun e => hne2 e.symm
    clear hx hq
    go_wp2
    go_round
    case rel => exact ⟨k + 1, by omega, by go_num, hy⟩
    case measure => simp [intOf]; omega
  ·have hkn : k = n := by omega
   subst hkn;clear h;have hy := ha.out;rw [List.take_of_length_le (by rw [hlen.out]; exact zR)] at hy;have hf : Hid (FindI l s (-1)) := .inl ⟨rfl, hy⟩;clear ha hy
   go_wp2
   go_ret;exact ⟨_, rfl, hf.out, rfl⟩
end Go.Proofs.YtnhomkmfbngmgaaGreatDoor
namespace Go.Proofs.YtnhomkmfbngmgaaGreatDoor
def addN (R : List Int) (v : Int) : List Int := if v ∈ R then R else R ++ [v]
def addL (R L : List Int) : List Int := L.foldl addN R
theorem addL_succ {R L : List Int} {k : Nat} {v : Int} (h : L[k]? = some v) : addL R (L.take (k + 1)) = addN (addL R (L.take k)) v := by
 unfold addL;rw [List.take_add_one, h, List.foldl_append]
 rfl
theorem addN_mem {R : List Int} {v x : Int} : x ∈ addN R v ↔ x ∈ R ∨ x = v := by
 unfold addN
 split
 ·constructor
  ·exact .inl
  ·rintro (h | rfl)
   ·exact h
   ·assumption
 ·simp
theorem addL_mem : ∀ {L R : List Int} {x : Int}, x ∈ addL R L ↔ x ∈ R ∨ x ∈ L
 | [], R, x => by simp [addL]
 | v :: L, R, x => by
  show x ∈ addL (addN R v) L ↔ _
  rw [addL_mem, addN_mem, List.mem_cons]
  constructor
  ·rintro ((h | h) | h)
   ·exact .inl h
   ·exact .inr (.inl h)
   ·exact .inr (.inr h)
  ·rintro (h | h | h)
   ·exact .inl (.inl h)
   ·exact .inl (.inr h)
   ·exact .inr h
def Beg (N : Int) (S R : List Int) : Prop := ∃ T, R = S ++ T ∧ T.Nodup ∧ ∀ v ∈ T, v ∉ S ∧ 0 ≤ v ∧ v < N
theorem Beg.refl (N : Int) (S : List Int) : Beg N S S := ⟨[], by simp, List.nodup_nil, fun _ h => by cases h⟩
theorem Beg.add {N : Int} {S R : List Int} (h : Beg N S R) {v : Int} (h0 : 0 ≤ v) (h1 : v < N) : Beg N S (addN R v) := by
 obtain ⟨T, rfl, hn, hv⟩ := h;unfold addN
 split
 ·exact ⟨T, rfl, hn, hv⟩
 ·rename_i hnot
  rw [List.mem_append] at hnot;refine ⟨T ++ [v], by simp, ?_, ?_⟩
  ·rw [List.nodup_append]
   exact ⟨hn, by simp, fun a ha b hb => by rw [List.mem_singleton.1 hb]; rintro rfl; exact hnot (.inr ha)⟩
  ·intro x hx
   rcases List.mem_append.1 hx with hx | hx
   ·exact hv x hx
   ·rw [List.mem_singleton.1 hx]
    exact ⟨fun h => hnot (.inl h), h0, h1⟩
theorem Beg.addL {N : Int} {S : List Int} : ∀ {L R : List Int}, Beg N S R → (∀ v ∈ L, 0 ≤ v ∧ v < N) → Beg N S (addL R L)
 | [], R, h, _ => h
 | v :: L, R, h, hv => Beg.addL (L := L) (h.add (hv v (List.mem_cons_self ..)).1 (hv v (List.mem_cons_self ..)).2) fun x hx => hv x (List.mem_cons_of_mem _ hx)
theorem nodup_few_aux : ∀ (n : Nat) (l : List Nat), l.Nodup → (∀ x ∈ l, x < n) → l.length ≤ n
 | 0, l, _, h => by
  cases l with
  | nil => simp
  | cons a l => exact absurd (h a (by simp)) (by omega)
 | n + 1, l, hd, h => by
  have h1 := nodup_few_aux n (l.filter fun x => decide (x ≠ n)) (hd.filter _) (fun x hx => by
   obtain ⟨h2, h3⟩ := List.mem_filter.1 hx;have := h x h2;have h4 : x ≠ n := by simpa using h3
   omega)
  have h2 : l.length ≤ (l.filter fun x => decide (x ≠ n)).length + 1 := by
   have h3 : l.length = l.countP (fun x => decide (x ≠ n)) + l.countP (fun x => !(decide (x ≠ n))) := by
    rw [List.length_eq_countP_add_countP (fun x => decide (x ≠ n))]
    congr 1
    apply List.countP_congr
    intro x _
    simp
   have h4 : l.countP (fun x => !(decide (x ≠ n))) ≤ 1 := by
    have h5 : l.countP (fun x => !(decide (x ≠ n))) = l.count n := by
     unfold List.count
     apply List.countP_congr
     intro x _
     simp
    rw [h5];exact List.nodup_iff_count.1 hd n
   rw [← List.countP_eq_length_filter];omega
  omega
theorem nodup_few {N : Nat} : ∀ {T : List Int}, T.Nodup → (∀ v ∈ T, 0 ≤ v ∧ v < (N : Int)) → T.length ≤ N := by
 intro T hn hv;have h1 : (T.map Int.toNat).Nodup := by
  rw [List.Nodup, List.pairwise_map];refine List.Pairwise.imp_of_mem (fun {a b} ha hb hne => ?_) hn;have := hv a ha;have := hv b hb;omega
 have := nodup_few_aux N (T.map Int.toNat) h1 fun x hx => by
  obtain ⟨v, hvv, rfl⟩ := List.mem_map.1 hx;have := hv v hvv;omega
 simpa using this
theorem Beg.len {N : Nat} {S R : List Int} (h : Beg (N : Int) S R) : R.length ≤ S.length + N := by
 obtain ⟨T, rfl, hn, hv⟩ := h;have := nodup_few hn fun v hx => (hv v hx).2
 rw [List.length_append];omega
structure TauI (N : Int) (es : List Ed) (ls : List ByteArray) (S R : List Int) (k : Nat) : Prop where
 beg : Beg N S R
 sound : ∀ v ∈ R, TauC es ls (· ∈ S) v
 closed : ∀ j, j < k → ∀ x, R[j]? = some x → ∀ v ∈ folV es ls tauB [x], v ∈ R
theorem TauI.start (N : Int) (es : List Ed) (ls : List ByteArray) (S : List Int) : TauI N es ls S S 0 :=
 ⟨Beg.refl _ _, fun v hv => .base hv, fun j hj => by omega⟩
theorem addL_get {R L : List Int} {j : Nat} (h : j < R.length) : (addL R L)[j]? = R[j]? := by
 induction L generalizing R with
 | nil => rfl
 | cons v L ih =>
  show (addL (addN R v) L)[j]? = _
  have h2 : j < (addN R v).length := by
   unfold addN
   split
   ·exact h
   ·rw [List.length_append]; omega
  rw [ih h2];unfold addN
  split
  ·rfl
  ·rw [List.getElem?_append_left h]
theorem addL_len {R L : List Int} : R.length ≤ (addL R L).length := by
 induction L generalizing R with
 | nil => exact zR
 | cons v L ih =>
  show _ ≤ (addL (addN R v) L).length
  refine Nat.le_trans ?_ ih;unfold addN
  split
  ·exact zR
  ·rw [List.length_append]; omega
theorem TauI.next {N : Int} {es : List Ed} {ls : List ByteArray} {S R : List Int} {k : Nat} {x : Int} (h : TauI N es ls S R k) (hx : R[k]? = some x) (hN : ∀ e ∈ es, 0 ≤ e.2.2 ∧ e.2.2 < N) : TauI N es ls S (addL R (folV es ls tauB [x])) (k + 1) := by
 have hk : k < R.length := (List.getElem?_eq_some_iff.1 hx).1;refine ⟨h.beg.addL fun v hv => ?_, fun v hv => ?_, fun j hj y hy v hv => ?_⟩
 ·obtain ⟨e, he, -, -, rfl⟩ := folV_mem.1 hv
  exact hN e he
 ·rcases addL_mem.1 hv with hv | hv
  ·exact h.sound v hv
  ·obtain ⟨e, he, h1, h2, rfl⟩ := folV_mem.1 hv
   refine .step ?_ he h2;rw [List.mem_singleton.1 h1];exact h.sound x (List.mem_of_getElem? hx)
 ·rw [addL_get (by omega)] at hy
  rcases Nat.lt_or_ge j k with h1 | h1
  ·exact addL_mem.2 (.inl (h.closed j h1 y hy v hv))
  ·have : j = k := by omega
   subst this;rw [hx] at hy
   cases hy
   exact addL_mem.2 (.inr hv)
theorem TauI.done {N : Int} {es : List Ed} {ls : List ByteArray} {S R : List Int} {k : Nat} (h : TauI N es ls S R k) (hk : R.length ≤ k) {v : Int} : v ∈ R ↔ TauC es ls (· ∈ S) v := by
 refine ⟨h.sound v, fun hv => ?_⟩
 induction hv with
 | base hv =>
  obtain ⟨T, rfl, -⟩ := h.beg;exact List.mem_append.2 (.inl hv)
 | step _ he hl ih =>
  obtain ⟨j, hj, e⟩ := List.mem_iff_getElem.1 ih;exact h.closed j (by omega) _ (List.getElem?_eq_some_iff.2 ⟨hj, e⟩) _ (folV_mem.2 ⟨_, he, List.mem_singleton.2 rfl, hl, rfl⟩)
open Go.ChangeAt Go.ChangeShapes Go.RowKit Go.WideShapes
theorem alloc_some {w : World} {o : Obj} {a : Addr} {v : Value} (h : w.cell? a = some v) : (w.alloc o).cell? a = some v := (World.cell?_alloc_some w a o (by rw [h]; rfl)).trans h
structure OwnC {α : Type} (size : Nat) (f : α → List Value) (t : TypeId) (w1 : World) (BB : Nat) (w : World) (A : Option Addr) (m c : Nat) (l : List α) : Prop where
 own : Own size f w BB t A m c l
 at_ : ∀ g, (Value.slice A m c).ownBlock = some g → g = BB ∨ w1.heap.size ≤ g
 only : Only BB (BB + 1) w1 w
theorem OwnC.below {α : Type} {size : Nat} {f : α → List Value} {t : TypeId} {w1 w w' : World} {BB m c : Nat} {A : Option Addr} {l : List α} (h : OwnC size f t w1 BB w A m c l) (hb : Below w.heap.size w w') : OwnC size f t w1 BB w' A m c l :=
 ⟨h.own.below hb zR, h.at_, ⟨hb.os.trans h.only.os, hb.tape.trans h.only.tape, hb.output.trans h.only.output, Nat.le_trans h.only.size hb.size, fun b hb' ho => (hb.block b (Nat.lt_of_lt_of_le hb' h.only.size)).trans (h.only.block b hb' ho)⟩⟩
theorem OwnC.app {α : Type} {size : Nat} {f : α → List Value} {t : TypeId} {w1 w w' : World} {BB m c m' c' : Nat} {A A' : Option Addr} {l l' : List α} (h : OwnC size f t w1 BB w A m c l) (ho : Own size f w' BB t A' m' c' l') (hg : w.grownBy w' (Value.slice A m c).ownBlock)
  (ha : (Value.slice A' m' c').ownBlock = (Value.slice A m c).ownBlock ∨ (Value.slice A' m' c').ownBlock = some w.heap.size) : OwnC size f t w1 BB w' A' m' c' l' := by
 refine ⟨ho, fun g hg' => ?_, ⟨hg.os.trans h.only.os, hg.tape.trans h.only.tape, hg.output.trans h.only.output, Nat.le_trans h.only.size hg.size, fun b hb' hb2 => (hg.block b (Nat.lt_of_lt_of_le hb' h.only.size) fun e => ?_).trans (h.only.block b hb' hb2)⟩⟩
 ·rcases ha with ha | ha
  ·exact h.at_ g (by rw [← ha]; exact hg')
  ·rw [ha] at hg'
   injection hg' with e;have := h.only.size;omega
 ·have := h.at_ b e.symm
  omega
open Go.Sort
theorem cloneT_calls (A : Option Addr) (n c : Nat) (l : List Int) (w : World) (lo hi : Nat) (h : SlI w lo hi A n l) (hn : n ≤ 1048576) :
  Calls Tryz.prog 194 #[.slice A n c] w fun e w' => ∃ A' c', e = .returned (.slice A' n c') ∧ Own 1 iv w' w.heap.size 2 A' n c' l ∧ Below w.heap.size w w' := by
 have hnil : ∀ (W : World) (a : Option Addr) (m d : Nat), (binOp .eql 32 (.slice a m d) (.slice none 0 0)).run Tryz.prog W = .ok (.bool a.isNone) W := fun W a m d => Lib.run_eql_slice_nil W 32 _ a m d 0 0 Tryz.underlying32
 have hE := hide elem_int
 cases A with
 | none =>
  have hn0 : n = 0 := by
   rcases Nat.eq_zero_or_pos n with h0 | h0
   ·exact h0
   ·obtain ⟨b, off, e, _⟩ := h.at_ h0
    cases e
  subst hn0;have hl := List.eq_nil_of_length_eq_zero h.len;subst hl;go_enter Tryz.func194, Tryz.ntmps194;go_wp2_with fail;go_ret;exact ⟨none, 0, rfl, Own.nil_ _ _ _, bR⟩
 | some a =>
  have hs := hide (h.below ((Below.refl w.heap.size w).alloc zR (.cells #[] 2)) (.inr zR));have hz : w.heap.size ≤ (w.alloc (.cells #[] 2)).heap.size := by simp
  clear h;go_enter Tryz.func194, Tryz.ntmps194;go_wp2_with (first | (at_builtin; (with_reducible refine wpList_app rfl (.tmp 5) (.tmp 6) rfl hE.out flat_iv rfl (Own.made w 2 zR) rfl hs.out ?c1 hz ?_); rotate_right; intro A2 c2 w2 hown2 hgr2 hb2 _))
  case c1 => omega
  go_ret;rw [Nat.zero_add, List.nil_append] at hown2
  exact ⟨_, _, rfl, hown2, (bR.alloc zR _).trans hb2⟩
theorem Own.toC {α : Type} {size : Nat} {f : α → List Value} {w : World} {base n c : Nat} {e : TypeId} {A : Option Addr} {l : List α} (h : Own size f w base e A n c l) (hb : base ≤ w.heap.size) :
  ∃ BB, base ≤ BB ∧ BB ≤ w.heap.size ∧ Own size f w BB e A n c l ∧ ∀ g, (Value.slice A n c).ownBlock = some g → g = BB := by
 rcases h.2.2 with ⟨hv, hn⟩ | ⟨g, cap, cur, hv, hbg, hg, rest⟩
 ·cases hv
  exact ⟨base, zR, hb, h, fun g hg => by cases hg⟩
 ·cases hv
  have hlt : g < w.heap.size := (Array.getElem?_eq_some_iff.1 hg).1;exact ⟨g, hbg, by omega, ⟨h.1, h.2.1, .inr ⟨g, c, cur, rfl, zR, hg, rest⟩⟩, fun g' hg' => by injection hg' with e; exact e.symm⟩
theorem internal_calls (s0 s1 : Int) (A2 : Option Addr) (n2 k2 : Nat) (A3 : Option Addr) (n3 k3 : Nat) (A1 : Option Addr) (n1 c1 : Nat) (S : List Int) (ls : List ByteArray) (es : List Ed) (w : World) (lo hi lo1 hi1 : Nat)
  (t2 : SlS w lo hi A2 n2 ls) (t3 : SlE w lo hi A3 n3 es) (t1 : SlI w lo1 hi1 A1 n1 S) (hS : n1 ≤ 1000000) (hes : n3 ≤ 1048576) (hval : ltsV (s0, s1, ls, es) = true) :
  Calls Tryz.prog 264 #[.agg #[.int .i64 s0, .int .i64 s1, .slice A2 n2 k2, .slice A3 n3 k3], .slice A1 n1 c1] w fun e w' => ∃ A n c R, e = .returned (.slice A n c) ∧ SlI w' w.heap.size w'.heap.size A n R ∧ (∀ v, v ∈ R ↔ TauC es ls (· ∈ S) v) ∧ n ≤ n1 + 40 ∧ Below w.heap.size w w' := by
 have l1 := t1.len;have he3 : es.length ≤ 300 := by
  have := hval;rw [ltsV_eq] at this;simp only [Bool.and_eq_true] at this;exact of_decide_eq_true this.1.2.2.2
 have hst : s0 ≤ 40 ∧ 1 ≤ s0 := by
  have := hval;rw [ltsV_eq] at this;simp only [Bool.and_eq_true] at this;have h1 := this.1.1;unfold inB at h1;rw [Bool.and_eq_true] at h1;exact ⟨of_decide_eq_true h1.2, of_decide_eq_true h1.1⟩
 obtain ⟨N, rfl⟩ : ∃ N : Nat, s0 = (N : Int) := ⟨s0.toNat, by omega⟩;have hN40 : N ≤ 40 := by omega
 have hto : ∀ e ∈ es, 0 ≤ e.2.2 ∧ e.2.2 < (N : Int) := by
  intro e he;obtain ⟨k, hk, hx⟩ := List.mem_iff_getElem.1 he;have := (edge_of hval (k := k) (f := e.1) (lb := e.2.1) (tg := e.2.2) (List.getElem?_eq_some_iff.2 ⟨hk, hx⟩)).2.1;omega
 have hlts := hide hval;have l3 := hide t3.len;have hW0 := hide (show Below w.heap.size w (w.alloc (.cells #[.int .i64 (N : Int), .int .i64 s1, .slice A2 n2 k2, .slice A3 n3 k3] 27)) from bR.alloc zR _);have kE := heap_alloc_new w (.cells #[.int .i64 (N : Int), .int .i64 s1, .slice A2 n2 k2, .slice A3 n3 k3] 27);have hbt : w.heap.size < (w.alloc (.cells #[.int .i64 (N : Int), .int .i64 s1, .slice A2 n2 k2, .slice A3 n3 k3] 27)).heap.size := by rw [World.size_alloc]; omega
 have hE := hide elem_int;have q0 := hide (cloneT_calls A1 n1 c1 S _ lo1 hi1 (t1.below hW0.out (.inr zR)) (by omega));replace t1 := hide t1;replace t2 := hide t2;replace t3 := hide t3;replace hto := hide hto;clear hval hst;go_enter Tryz.func264, Tryz.ntmps264;go_upto_region 1 with fail;have x0 : (w.alloc (.cells #[.int .i64 (N : Int), .int .i64 s1, .slice A2 n2 k2, .slice A3 n3 k3] 27)).cell? ⟨w.heap.size, 0, none⟩ = some (.int .i64 (N : Int)) := cR 0 kE;have x1 : (w.alloc (.cells #[.int .i64 (N : Int), .int .i64 s1, .slice A2 n2 k2, .slice A3 n3 k3] 27)).cell? ⟨w.heap.size, 1, none⟩ = some (.int .i64 s1) := cR 1 kE;have x2 : (w.alloc (.cells #[.int .i64 (N : Int), .int .i64 s1, .slice A2 n2 k2, .slice A3 n3 k3] 27)).cell? ⟨w.heap.size, 2, none⟩ = some (.slice A2 n2 k2) := cR 2 kE;have x3 : (w.alloc (.cells #[.int .i64 (N : Int), .int .i64 s1, .slice A2 n2 k2, .slice A3 n3 k3] 27)).cell? ⟨w.heap.size, 3, none⟩ = some (.slice A3 n3 k3) := cR 3 kE;clear kE;generalize hWW : (w.alloc (.cells #[.int .i64 (N : Int), .int .i64 s1, .slice A2 n2 k2, .slice A3 n3 k3] 27)) = W0 at *;clear hWW;have hbt1 : w.heap.size + 1 ≤ W0.heap.size := hbt;go_upto_region 3 with (first | (go_at_call 194; (with_reducible refine q0.out.mono ?_); rintro e wx ⟨A0, c0, rfl, hown0, hb0⟩));have hB0 := hb0.size;replace hown0 := hide hown0
 go_loopg [5, 6] (n1 + 40) (fun G o i wr => ∃ k m c A R, k ≤ m ∧ o = .slice A m c ∧ i = .int .i64 (k : Nat) ∧ Hid (Own 1 iv wr W0.heap.size 2 A m c R) ∧ Hid (TauI (N : Int) es ls S R k) ∧ Hid (n1 + 40 ≤ G + k) ∧ Below W0.heap.size W0 wr)
 case atStart => exact ⟨0, n1, c0, A0, S, Nat.zero_le _, rfl, rfl, hown0, TauI.start _ _ _ _, zR, hb0⟩
 case round =>
  clear hown0 hb0 hB0;obtain ⟨k, m, c, A, R, hk, rfl, rfl, hown, hI, hG, hb⟩ := hrel;have hz := hb.size;have hml := hown.out.len;have hmx := hI.out.beg.len;rw [hml, l1] at hmx
  by_cases hlt : k < m
  ·obtain ⟨G3, rfl⟩ : ∃ G3, gk = G3 + 1 := ⟨gk - 1, by have := hG.out; omega⟩
   have hG3 : Hid (n1 + 40 ≤ G3 + (k + 1)) := by have := hG.out; show _ ≤ _; omega
   obtain ⟨b, off, x, rfl, -, -, gb, hx, px, -⟩ := SlI.get (hown.out.sl flat_iv) hlt;have hwb := hW0.out.trans (hb.mono (by omega));have y0 := (hb.cell (p := ⟨w.heap.size, 0, none⟩) hbt).trans x0;have y1 := (hb.cell (p := ⟨w.heap.size, 1, none⟩) hbt).trans x1;have y2 := (hb.cell (p := ⟨w.heap.size, 2, none⟩) hbt).trans x2;have y3 := (hb.cell (p := ⟨w.heap.size, 3, none⟩) hbt).trans x3;have hA : Below wr.heap.size wr (wr.alloc (.cells #[.int .i64 x] 2)).drew := (bR.alloc zR (.cells #[.int .i64 x] 2)).drew;have hsz : (wr.alloc (.cells #[.int .i64 x] 2)).drew.heap.size = wr.heap.size + 1 := by show (wr.alloc _).heap.size = _; rw [World.size_alloc]
   have hwA := hwb.trans (hA.mono hwb.size);have qf := followS_calls (N : Int) s1 A2 n2 k2 A3 n3 k3 (some ⟨wr.heap.size, 0, none⟩) 1 1 [x] tauB ls es (wr.alloc (.cells #[.int .i64 x] 2)).drew lo hi 0 (wr.heap.size + 1) (t2.out.below hwA (.inr zR)) (t3.out.below hwA (.inr zR)) ((Sl.lit1' wr 2 x _ rfl 1 _ rfl).drew) (by omega) hes hlts.out;rw [show tauB = (⟨#[116, 97, 117]⟩ : ByteArray) from rfl] at qf;replace qf := hide qf;have hI0 : (0 : Int) ≤ (k : Int) := by omega
   have hI1 : (k : Int) < (m : Int) := by omega
   obtain ⟨BB, hB1, hB2, hownB, hgB⟩ := hown.out.toC hz;have hg9 : w.heap.size < (wr.alloc (.cells #[.int .i64 x] 2)).drew.heap.size := by rw [hsz]; omega
   have hg8 : b < (wr.alloc (.cells #[.int .i64 x] 2)).drew.heap.size := by rw [hsz]; omega
   have hnx := hI.out.next hx hto.out;have ya0 : (wr.alloc (.cells #[.int .i64 x] 2)).drew.cell? ⟨w.heap.size, 0, none⟩ = some (.int .i64 (N : Int)) := alloc_some y0;have ya1 : (wr.alloc (.cells #[.int .i64 x] 2)).drew.cell? ⟨w.heap.size, 1, none⟩ = some (.int .i64 s1) := alloc_some y1;have ya2 : (wr.alloc (.cells #[.int .i64 x] 2)).drew.cell? ⟨w.heap.size, 2, none⟩ = some (.slice A2 n2 k2) := alloc_some y2;have ya3 : (wr.alloc (.cells #[.int .i64 x] 2)).drew.cell? ⟨w.heap.size, 3, none⟩ = some (.slice A3 n3 k3) := alloc_some y3;have pa : (wr.alloc (.cells #[.int .i64 x] 2)).drew.cell? ⟨b, off + k, none⟩ = some (.int .i64 x) := alloc_some px;replace hnx := hide hnx;replace hownB := hide hownB;replace hgB := hide hgB;replace hA := hide hA;replace hwb := hide hwb;replace hb := hide hb;replace hsz := hide hsz;clear hx hwA hown hI;go_upto_region 5 with fail
   go_region_held3 (fun w' => w'.cell? ⟨w.heap.size, 0, none⟩ = some (.int .i64 (N : Int)) ∧ w'.cell? ⟨w.heap.size, 1, none⟩ = some (.int .i64 s1) ∧ w'.cell? ⟨w.heap.size, 2, none⟩ = some (.slice A2 n2 k2) ∧ w'.cell? ⟨w.heap.size, 3, none⟩ = some (.slice A3 n3 k3) ∧ w'.cell? ⟨b, off + k, none⟩ = some (.int .i64 x)) (first | exact ⟨y0, y1, y2, y3, px⟩ | exact ⟨z0, z1, z2, z3, pz⟩ | go_keep)
    (first | (go_at_call 181; (with_reducible refine qf.out.mono ?_); rintro e w5 ⟨Af, nf, cf, rfl, hof, hb5⟩; have z0 := (hb5.cell (p := ⟨w.heap.size, 0, none⟩) hg9).trans ya0; have z1 := (hb5.cell (p := ⟨w.heap.size, 1, none⟩) hg9).trans ya1; have z2 := (hb5.cell (p := ⟨w.heap.size, 2, none⟩) hg9).trans ya2; have z3 := (hb5.cell (p := ⟨w.heap.size, 3, none⟩) hg9).trans ya3; have pz := (hb5.cell (p := ⟨b, off + k, none⟩) hg8).trans pa; replace hof := hide hof; replace hb5 := hide hb5))
   have hb5w : Below wr.heap.size wr w5 := hA.out.trans (hb5.out.mono (by rw [hsz.out]; omega));have hC : Hid (OwnC 1 iv 2 w5 BB w5 (some ⟨b, off, none⟩) m c R) := ⟨hownB.out.below hb5w zR, fun g hg => .inl (hgB.out g hg), Only.refl _ _ _⟩;have hfs := hide (hof.out.sl flat_iv);have hfl := hof.out.len;have hfl2 := folV_len es ls tauB [x];have hnf : nf ≤ 300 := by rw [show folV es ls ⟨#[116, 97, 117]⟩ [x] = folV es ls tauB [x] from rfl] at hfl; have := l3.out; omega
   have hfa : (folV es ls tauB [x]).take nf = folV es ls tauB [x] := List.take_of_length_le (by rw [show folV es ls ⟨#[116, 97, 117]⟩ [x] = folV es ls tauB [x] from rfl] at hfl; omega);replace hfs : Hid (SlI w5 (wr.heap.size + 1) w5.heap.size Af nf (folV es ls tauB [x])) := by have := hfs.out; rw [hsz.out] at this; exact this
   have hw5 := hb5w.size;have hbW : Below W0.heap.size W0 w5 := hb.out.trans (hb5w.mono hz);replace hnx := hnx.out;generalize folV es ls tauB [x] = F at *;replace hnx := hide hnx;replace hfa := hide hfa;replace hbW := hide hbW;replace hb5w := hide hb5w;have k0 := hide z0;have k1 := hide z1;have k2 := hide z2;have k3 := hide z3;clear hfl hfl2 hof hb5 hA hownB hgB y0 y1 y2 y3 ya0 ya1 ya2 ya3 pa px pz z0 z1 z2 z3 hg9 hg8 qf hsz;obtain ⟨wo, rfl⟩ : ∃ wo : World, wo = wr := ⟨_, rfl⟩;go_upto_region 6 with fail
   go_loopg [5, 25] nf (fun G o i wr => ∃ j m2 c2 A4 R2, j ≤ nf ∧ m2 ≤ m + j ∧ o = .slice A4 m2 c2 ∧ i = .int .i64 (j : Nat) ∧ Hid (OwnC 1 iv 2 w5 BB wr A4 m2 c2 R2) ∧ Hid (R2 = addL R (F.take j)) ∧ Hid (nf ≤ G + j))
   case atStart => exact ⟨0, m, c, _, R, Nat.zero_le _, by omega, rfl, rfl, hC, rfl, by show _ ≤ _; omega⟩
   case round =>
    clear hC;obtain ⟨j, m2, c2, A4, R2, hj, hm2, rfl, rfl, hC, hR2, hG2⟩ := hrel;have hzz := hC.out.only.size
    by_cases hlt2 : j < nf
    ·obtain ⟨G4, rfl⟩ : ∃ G4, gk = G4 + 1 := ⟨gk - 1, by have := hG2.out; omega⟩
     have hG4 : Hid (nf ≤ G4 + (j + 1)) := by have := hG2.out; show _ ≤ _; omega
     obtain ⟨bf, of_, v, rfl, -, -, gf, hv, pv, -⟩ := SlI.get (Sl.only hfs.out hC.out.only (.inr (by omega))) hlt2;have qc := hide (containsI_calls v A4 m2 c2 R2 wr _ _ (hC.out.own.sl flat_iv) (by omega));have hsu := addL_succ (R := R) hv;rw [← hR2.out] at hsu;have hJ0 : (0 : Int) ≤ (j : Int) := by omega
     have hJ1 : (j : Int) < (nf : Int) := by omega
     replace hR2 := hide hR2;clear hv
     by_cases hin : v ∈ R2
     ·have hany : R2.any (fun x => decide (x = v)) = true := List.any_eq_true.2 ⟨v, hin, decide_eq_true rfl⟩
      rw [hany] at qc;rw [addN, if_pos hin] at hsu;replace hsu := hide hsu;clear hany hin hR2;go_wp2_with (first
       | (go_at_call 193; (with_reducible refine qc.out.mono ?_); rintro e w' ⟨rfl, rfl⟩))
      go_roundg G4
      case measure => omega
      case rel => exact ⟨j + 1, m2, c2, A4, R2, by omega, by omega, rfl, by go_num, hC, hsu.out.symm, hG4⟩
     ·have hany : R2.any (fun x => decide (x = v)) = false := by
       cases h : R2.any (fun x => decide (x = v)) with
       | false => rfl
       | true =>
        obtain ⟨y, hy, e⟩ := List.any_eq_true.1 h;rw [of_decide_eq_true e] at hy;exact (hin hy).elim
      rw [hany] at qc;rw [addN, if_neg hin] at hsu;replace hsu := hide hsu;have hownA := hC.out.below (bR.alloc zR (.cells #[.int .i64 v] 2));have hza : BB ≤ (wr.alloc (.cells #[.int .i64 v] 2)).heap.size := by rw [World.size_alloc]; omega
      replace hownA := hide hownA;clear hany hin hR2 hC;go_wp2_with (first
       | (go_at_call 193; (with_reducible refine qc.out.mono ?_); rintro e w' ⟨rfl, rfl⟩)
       | (at_builtin; (with_reducible refine wpList_app rfl (.tmp 33) (.tmp 35) rfl hE.out flat_iv rfl hownA.out.own rfl (Sl.lit1' wr 2 v _ rfl 1 _ ?c0) ?c1 hza ?_); rotate_right; intro A7 c7 w7 hown7 hgr7 hb7 hat7))
      case c0 => rfl
      case c1 => omega
      have hown8 := hide (hownA.out.app hown7 hgr7 hat7);clear hown7 hgr7 hb7 hat7 hownA
      go_roundg G4
      case measure => omega
      case rel => exact ⟨j + 1, m2 + 1, c7, A7, R2 ++ [v], by omega, by omega, rfl, by go_num, hown8, hsu.out.symm, hG4⟩
    ·have hjn : j = nf := by omega
     subst hjn;have hR3 : R2 = addL R F := by have := hR2.out; rwa [hfa.out] at this
     subst hR3;have hbN := Only.below hbW.out hC.out.only hB1 (Nat.le_trans hz hw5);have hownN := hide (hC.out.own.lower hB1);have hlenN := hnx.out.beg.len;have hkm : k + 1 ≤ m2 := by have h1 := hownN.out.len; have h2 := addL_len (R := R) (L := F); omega
     clear hC hR2;go_wp2_with fail
     go_roundg G3
     case measure => omega
     case rel => exact ⟨k + 1, m2, c2, A4, addL R F, hkm, rfl, by go_num, hownN, hnx, hG3, hbN⟩
  ·have hkm : k = m := by omega
   subst hkm;have q1 := hide (sortI_calls hown.out (by omega));have hdone : ∀ v, v ∈ R ↔ TauC es ls (· ∈ S) v := fun v => hI.out.done (by omega)
   have hwz := hz;replace hb := hide hb;go_wp2_with fail;refine q1.out.mono ?_;rintro e w1 ⟨rfl, hs1, hg1⟩;have hbs1 := hide (hown.out.grown_below hg1 zR hwz);have hsl := hide (hs1.sl flat_iv);clear hs1 hg1;go_wp2_with fail;go_ret;exact ⟨_, _, _, _, rfl, hsl.out.more (by omega) zR, fun v => sortI_mem.trans (hdone v), by omega, hW0.out.trans ((hb.out.trans hbs1.out).mono (by omega))⟩
end Go.Proofs.YtnhomkmfbngmgaaGreatDoor
namespace Go.Proofs.YtnhomkmfbngmgaaGreatDoor
open Go.ChangeShapes Go.WideShapes Go.ChangeAt Go.RowKit Go.Lib
def cellsD : DataW Unit → List Value
 | .agg l => l.flatMap fun x => match x with
  | .lit (.int k z) => [.int k z]
  | _ => []
 | _ => []
noncomputable def laidWorld (os : Os) : World :=
 let w0 := World.doorLaid Tryz.prog 400 os
 { w0 with heap := w0.heap.modify 2 fun
   | .cells _ t f => .cells (cellsD Rows.laid_unicode_utf8_first).toArray t f
   | o => o }
theorem laid_met (os : Os) (args : Array Value) : laidMet Tryz.prog Rows.fnLtsRow.laid ((laidWorld os).forCall (fun _ _ => 0) ⟨#[], args, []⟩).memory :=
 laidMet_of_run' 8 (by kernel_rfl) (by kernel_rfl)
end Go.Proofs.YtnhomkmfbngmgaaGreatDoor
namespace Go.Proofs.YtnhomkmfbngmgaaGreatDoor
open Go.ChangeShapes Go.WideShapes Go.ChangeAt Go.RowKit
open Go.Maps (Keyed)
def pairV (q : Int × Int) : Value := .agg #[.int .i64 q.1, .int .i64 q.2]
theorem laidP : laidOutB Tryz.prog = true := by kernel_rfl
theorem keyedP : Keyed Tryz.prog 177 := Keyed.of_law (Go.deep_law_laid laidP (m := 2) (by omega) (of_decide_eq_true (by kernel_rfl)) (by kernel_rfl) (by rw [Tryz.underlying177]))
theorem pairV_inj {a b : Int × Int} (h : pairV a = pairV b) : a = b := by
 unfold pairV at h;injection h with h;injection h with h;injection h with h1 h2;injection h2 with h2 _;injection h1 with _ h1;injection h2 with _ h2;exact Prod.ext h1 h2
open Go.Maps (Keyed)
abbrev PQ2 := Int × Int
def KL (q : PQ2) (l : Lit) : Prop := keyOf Tryz.prog 177 (pairV q) = some l
theorem KL.inj {a b : PQ2} {l : Lit} (h : KL a l) (g : KL b l) : a = b := pairV_inj (keyedP.inj h g)
section
variable {w w' : World} {b : Nat} {S : List PQ2}
end
section
variable {w w' : World} {b r : Nat} {S L : List PQ2} {cnt : Nat}
end
section
variable {w : World} {ops : Array Oper} {rest : List Oper} {o : Oper} {a : Act} {Q : Exit → Act → World → Prop} {b r : Nat} {S L : List PQ2} {cnt : Nat}
end
open Go.Lib Go.Sort
theorem compareLabels_calls (a b : ByteArray) (w : World) : Calls Tryz.prog 226 #[.string a, .string b] w fun e w' => e = .returned (.int .i64 (cmpB (toL a) (toL b))) ∧ w' = w := by
 have q := Tryz.strings_Compare a b
 by_cases h1 : a = b
 ·subst h1
  have hv : Hid (cmpB (toL a) (toL a) = 0) := by show _ = _; unfold cmpB; rw [if_pos rfl]
  have hself : (a.toList == a.toList) = true := beq_self_eq_true _;clear q;go_enter Tryz.func226, Tryz.ntmps226;go_wp2_with fail;go_ret;exact ⟨ret_i (by rw [hv.out]), rfl⟩
 ·have n1 := str_neq h1
  have n2 : ¬ a.toList = b.toList := fun e => by rw [e, beq_self_eq_true] at n1; cases n1
  have n3 : ¬ toL a = toL b := fun e => h1 (toL_inj e)
  by_cases h2 : a = tauB
  ·have hv : Hid (cmpB (toL a) (toL b) = -1) := by show _ = _; unfold cmpB; rw [if_neg n3, if_pos (by rw [h2, toL_tau])]
   have t1 : (a.toList == [116, 97, 117]) = true := by rw [h2, tau_list]; rfl
   clear q n3 h1 h2;go_enter Tryz.func226, Tryz.ntmps226;go_wp2_with fail;go_ret;exact ⟨ret_i (by rw [hv.out]), rfl⟩
  ·have t1 : (a.toList == [116, 97, 117]) = false := by have := str_neq h2; rwa [tau_list] at this
   have t2 : ¬ a.toList = [116, 97, 117] := fun e => by rw [e] at t1; cases t1
   have t3 : ¬ toL a = tauBL := fun e => h2 (toL_inj (e.trans toL_tau.symm))
   by_cases h3 : b = tauB
   ·have hv : Hid (cmpB (toL a) (toL b) = 1) := by show _ = _; unfold cmpB; rw [if_neg n3, if_neg t3, if_pos (by rw [h3, toL_tau])]
    have u1 : (b.toList == [116, 97, 117]) = true := by rw [h3, tau_list]; rfl
    clear q n3 t3 h1 h2 h3;go_enter Tryz.func226, Tryz.ntmps226;go_wp2_with fail;go_ret;exact ⟨ret_i (by rw [hv.out]), rfl⟩
   ·have u1 : (b.toList == [116, 97, 117]) = false := by have := str_neq h3; rwa [tau_list] at this
    have u2 : ¬ b.toList = [116, 97, 117] := fun e => by rw [e] at u1; cases u1
    have u3 : ¬ toL b = tauBL := fun e => h3 (toL_inj (e.trans toL_tau.symm))
    have hv : Hid (cmpB (toL a) (toL b) = Lib.compareBytes a.data.toList b.data.toList) := by show _ = _; unfold cmpB; rw [if_neg n3, if_neg t3, if_neg u3]; rfl
    generalize Lib.compareBytes a.data.toList b.data.toList = r at *;replace q := hide q;clear n3 t3 u3 h1 h2 h3;go_enter Tryz.func226, Tryz.ntmps226;go_wp2_with (first | (go_at_call 292; (with_reducible refine (q.out _).mono ?_); rintro e w5 ⟨rfl, rfl⟩));go_ret;exact ⟨ret_i (by rw [hv.out]), rfl⟩
theorem strv_map (l : List ByteArray) : l.flatMap strv = l.map Value.string := by
 induction l with
 | nil => rfl
 | cons x l ih => rw [List.flatMap_cons, ih]; rfl
section
variable {w : World} {base g n c q : Nat} {e : TypeId} {l : List ByteArray} {d : List (List UInt8)} {os : Array Obj}
theorem putS_block (w : World) (g q : Nat) (d : List (List UInt8)) (os : Array Obj) (hg : g < w.heap.size) :
  (grow (putRow encStr (Sort.ahead w q) g 0 d.toArray) os).heap[g]? = (w.heap[g]?).map (onCells (Go.Sort.putCells encStr 0 d.toArray)) := by
 rw [heap_grow_old _ _ (by simpa [putRow, mapBlock, Sort.ahead] using hg)]
 simp [putRow, mapBlock, Sort.ahead, Array.getElem?_modify]
theorem putS_grown (w : World) (g q : Nat) (d : List (List UInt8)) (os : Array Obj) : w.grownBy (grow (putRow encStr (Sort.ahead w q) g 0 d.toArray) os) (some g) := by
 refine ⟨rfl, rfl, rfl, by simp [putRow, mapBlock, Sort.ahead], fun k hk hne => ?_⟩;rw [heap_grow_old _ _ (by simpa [putRow, mapBlock, Sort.ahead] using hk)];have hne' : g ≠ k := fun h => hne (by rw [h])
 simp [putRow, mapBlock, Sort.ahead, Array.getElem?_modify, hne']
theorem Own.putS (h : Own 1 strv w base e (some ⟨g, 0, none⟩) n c l) (hd : d.length = n) {m : Nat} (hm : m ≤ n) :
  Own 1 strv (grow (putRow encStr (Sort.ahead w q) g 0 d.toArray) os) base e (some ⟨g, 0, none⟩) m c ((d.take m).map ofL) := by
 rcases h.2.2 with ⟨hv, -⟩ | ⟨g', cap, cur, hv, hb, hg, hnc, hcm, hcs, htake⟩
 ·cases hv
 ·cases hv
  have hlt : g < w.heap.size := (Array.getElem?_eq_some_iff.1 hg).1;have hl : ((d.take m).map ofL).length = m := by rw [List.length_map, List.length_take]; omega
  refine ⟨hl, by rw [flat_length flat_strv, hl], .inr ⟨g, c, Go.Sort.putCells encStr 0 d.toArray cur, rfl, hb, ?_, by omega, hcm, by simp [Go.Sort.putCells, hcs], ?_⟩⟩
  ·rw [putS_block _ _ _ _ _ hlt, hg]
   rfl
  ·rw [strv_map]
   apply List.ext_getElem?
   intro k
   by_cases hk : k < m
   ·have hkc : k < cur.size := by omega
    have hkd : k < d.length := by omega
    rw [List.getElem?_take, if_pos (by omega), List.getElem?_map, List.getElem?_map, List.getElem?_take, if_pos hk, Array.getElem?_toList, List.getElem?_eq_getElem hkd];simp only [Go.Sort.putCells, Array.getElem?_mapIdx, Array.getElem?_eq_getElem hkc, Option.map_some];rw [if_pos ⟨Nat.zero_le _, by simp; omega⟩, Nat.sub_zero, getElem!_pos _ k (by simpa using hkd)]
    simp [encStr, ofL]
   ·rw [List.getElem?_eq_none (by simp; omega), List.getElem?_eq_none (by simp; omega)]
theorem Own.holdsS (h : Own 1 strv w base e (some ⟨g, 0, none⟩) n c l) : Holds encStr w g 0 (l.map toL).toArray := by
 intro j hj;have hj' : j < l.length := by simpa using hj
 have hs := h.sl flat_strv;have hn := h.len;obtain ⟨b', off', e', -, -, -, hc⟩ := hs.at_ (by omega)
 cases e'
 have := hc j l[j] (List.getElem?_eq_getElem hj') 0 (.string l[j]) rfl;rw [getElem!_pos _ j hj];have he : encStr (l.map toL).toArray[j] = .string l[j] := by
  simp only [List.getElem_toArray, List.getElem_map];exact congrArg Value.string (ofL_toL _)
 rw [he]
 simpa using this
end
section
variable {w : World} {base n c : Nat} {A : Option Addr} {l : List ByteArray}
theorem sortL_calls (h : Own 1 strv w base 9 A n c l) (hn : n ≤ 1000000000) :
  Calls Tryz.prog 225 #[.slice A n c, .func (.func 226) #[] #[]] w fun e w' => e = .returned (.tuple #[]) ∧ Own 1 strv w' base 9 A n c (((l.map toL).mergeSort fun x y => !(ltL y x)).map ofL) ∧ w.grownBy w' (Value.slice A n c).ownBlock := by
 rcases h.2.2 with ⟨hv, hn0⟩ | ⟨g, cap, cur, hv, hb, hg, hnc, hcm, hcs, htake⟩
 ·cases hv
  have hl := List.eq_nil_of_length_eq_zero h.len;subst hl;refine (Tryz.slices_SortFunc_string_none none 0 _ w).mono ?_;rintro e w' ⟨rfl, rfl⟩;refine ⟨rfl, ?_, ⟨rfl, rfl, rfl, zR, fun _ _ _ => rfl⟩⟩
  simpa using h
 ·cases hv
  have hlt : g < w.heap.size := (Array.getElem?_eq_some_iff.1 hg).1;have eg : ∀ args w, (callFunc 226 args).run Tryz.prog w = .ok (.enter 226 args) w := enters_of Tryz.func226 (by kernel_rfl) rfl;have hsz : (l.map toL).toArray.size = n := by simp [h.len]
  have hcmp : CmpReads Tryz.prog 226 #[] encStr cmpB g 0 (l.map toL).toArray.size w := fun m os dk hs x y => (compareLabels_calls (ofL x) (ofL y) _).mono fun e w' ⟨he, hw⟩ => ⟨by rw [he, toL_ofL, toL_ofL], 0, hw⟩
  have hq := Tryz.slices_SortFunc_string cmpB swoL 226 #[] g 0 c (l.map toL).toArray w eg hcmp.lays h.holdsS hlt (by rw [hsz]; omega) apartL;rw [hsz] at hq;refine hq.mono ?_;rintro e w' ⟨rfl, q, os, rfl⟩;have hd : ((l.map toL).mergeSort fun x y => !(ltL y x)).length = n := by rw [List.length_mergeSort, List.length_map, h.len]
  refine ⟨rfl, ?_, putS_grown _ _ _ _ _⟩;have := h.putS (d := (l.map toL).mergeSort fun x y => !(ltL y x)) (q := q) (os := os) hd (Nat.le_refl n)
  rwa [List.take_of_length_le (by rw [hd]; exact zR)] at this
theorem compactL_calls (h : Own 1 strv w base 9 A n c l) (hn : n ≤ 1000000000) :
  Calls Tryz.prog 227 #[.slice A n c] w fun e w' => e = .returned (.slice A (Lib.compact (l.map toL)).length c) ∧ Own 1 strv w' base 9 A (Lib.compact (l.map toL)).length c ((Lib.compact (l.map toL)).map ofL) ∧ w.grownBy w' (Value.slice A n c).ownBlock := by
 rcases h.2.2 with ⟨hv, hn0⟩ | ⟨g, cap, cur, hv, hb, hg, hnc, hcm, hcs, htake⟩
 ·cases hv
  have hl := List.eq_nil_of_length_eq_zero h.len;subst hl;refine (Tryz.slices_Compact_string_empty none 0 w).mono ?_;rintro e w' ⟨rfl, rfl⟩;exact ⟨rfl, h, ⟨rfl, rfl, rfl, zR, fun _ _ _ => rfl⟩⟩
 ·cases hv
  have hlt : g < w.heap.size := (Array.getElem?_eq_some_iff.1 hg).1;have hlen := compact_length_le (l.map toL);have hln : (l.map toL).length = n := by rw [List.length_map, h.len]
  have hq := Tryz.slices_Compact_string g 0 c (l.map toL) w h.holdsS (by omega) (by omega);rw [hln] at hq hlen;refine hq.mono ?_;rintro e w' ⟨rfl, q, rfl⟩;have hd : (Lib.compact (l.map toL) ++ List.replicate (n - (Lib.compact (l.map toL)).length) []).length = n := by simp; omega
  have h1 := h.putS (d := Lib.compact (l.map toL) ++ List.replicate (n - (Lib.compact (l.map toL)).length) []) (q := q) (os := #[]) hd hlen;have h2 := putS_grown w g q (Lib.compact (l.map toL) ++ List.replicate (n - (Lib.compact (l.map toL)).length) []) #[];rw [grow_empty] at h1 h2;rw [List.take_left' rfl] at h1;exact ⟨rfl, h1, h2⟩
end
theorem map_toL_ofL (d : List (List UInt8)) : (d.map ofL).map toL = d := by
 rw [List.map_map];exact (List.map_congr_left fun x _ => toL_ofL x).trans (List.map_id _)
theorem compactD_calls {w : World} {base n c : Nat} {A : Option Addr} {d : List (List UInt8)} (h : Own 1 strv w base 9 A n c (d.map ofL)) (hn : n ≤ 1000000000) :
  Calls Tryz.prog 227 #[.slice A n c] w fun e w' => e = .returned (.slice A (Lib.compact d).length c) ∧ Own 1 strv w' base 9 A (Lib.compact d).length c ((Lib.compact d).map ofL) ∧ w.grownBy w' (Value.slice A n c).ownBlock := by
 have := compactL_calls h hn
 rwa [map_toL_ofL] at this
end Go.Proofs.YtnhomkmfbngmgaaGreatDoor
namespace Go.Proofs.YtnhomkmfbngmgaaGreatDoor
open Go.ChangeShapes Go.WideShapes Go.ChangeAt Go.RowKit
theorem Own.litL {α : Type} {f : α → List Value} {w : World} {g base : Nat} {e : TypeId} {x : α} {u : Value} (h : w.heap[g]? = some (.cells #[u] e (0, 0))) (hf : f x = [u]) (hb : base ≤ g) : Own 1 f w base e (some ⟨g, 0, none⟩) 1 1 [x] :=
 ⟨rfl, by simp [hf], .inr ⟨g, 1, #[u], rfl, hb, h, zR, by unfold maxLen; omega, rfl, by simp [hf]⟩⟩
theorem strv_mapL (l : List ByteArray) : l.flatMap strv = l.map Value.string := by
 induction l with
 | nil => rfl
 | cons x l ih => rw [List.flatMap_cons, ih]; rfl
theorem Own.setS {w : World} {base g n c : Nat} {e : TypeId} {l : List ByteArray} (h : Own 1 strv w base e (some ⟨g, 0, none⟩) n c l) (k : Nat) (x : ByteArray) : Own 1 strv (w.setCell ⟨g, k, none⟩ (.string x)) base e (some ⟨g, 0, none⟩) n c (l.set k x) := by
 rcases h.2.2 with ⟨hv, -⟩ | ⟨g', cap, cur, hv, hb, hg, hnc, hcm, hcs, htake⟩
 ·cases hv
 ·cases hv
  refine ⟨by rw [List.length_set]; exact h.1, by rw [flat_length flat_strv, List.length_set]; have := h.1; omega, .inr ⟨g, c, cur.setIfInBounds k (.string x), rfl, hb, heap_setCell_same _ _ k _ _ _ hg, hnc, hcm, by simpa using hcs, ?_⟩⟩;rw [Array.toList_setIfInBounds, List.take_set, htake, strv_mapL, strv_mapL, List.map_set]
theorem step_appL {P : Program} {α : Type} {size bytes : Nat} {f : α → List Value} {t e : TypeId} {w : World} {ops : Array Oper} {o : Oper} {a : Act} {K : Act → World → Prop} {Q : Exit → Act → World → Prop} {E : Prop} (hgd : o.guard = none) (s x : Operand)
  (ho : o.op = .call { callee := .builtin .append, args := #[s, x], argTypes := #[t, t] }) (hE : Elem P t e size bytes) (hf : Flat f size)
  {base n c : Nat} {A : Option Addr} {l : List α} (hs : a.eval s = .slice A n c) (hown : Own size f w base e A n c l)
  {B : Option Addr} {m d lo hi : Nat} {r : List α} (hx : a.eval x = .slice B m d) (hr : Sl size f w lo hi B m r) (hsz : (n + m) * bytes ≤ 140737488355328) (hbase : base ≤ w.heap.size)
  (h : ∀ A' c' w', Own size f w' base e A' (n + m) c' (l ++ r) → w.grownBy w' (Value.slice A n c).ownBlock → Below base w w' →
   ((Value.slice A' (n + m) c').ownBlock = (Value.slice A n c).ownBlock ∨ (Value.slice A' (n + m) c').ownBlock = some w.heap.size) → K (a.put o.dst (.slice A' (n + m) c')) w') :
  if Region.wanted o (yielded ops a.tmps) = true then Oper.wp P o a w K Q else E := by
 have hw : Region.wanted o (yielded ops a.tmps) = true := by simp [Region.wanted, hgd]
 rw [if_pos hw];obtain ⟨A', c', w', h1, h2, h3, h4⟩ := run_app w hE hf o.type hown (d := d) hr hsz hbase;unfold Oper.wp execOp;simp only [ho, resolve, invoke, builtin, Sem.run_bind, Sem.run_pure, Result.andThen_ok, List.map_toArray, List.map_cons, List.map_nil, hs, hx, h1];exact h _ _ _ h2 h3 (bR.grown h3 hbase fun k hk => (hown.lt k hk).1) h4
end Go.Proofs.YtnhomkmfbngmgaaGreatDoor
