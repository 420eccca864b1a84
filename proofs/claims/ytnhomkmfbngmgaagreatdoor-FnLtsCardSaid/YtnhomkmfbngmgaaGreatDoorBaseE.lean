/-
  Lemmas that the law of this claim leans on. Conditions: sizes.
-/
import Derived.Test.YtnhomkmfbngmgaaGreatDoorBaseA
import Derived.Test.YtnhomkmfbngmgaaGreatDoorBaseB
import Derived.Test.YtnhomkmfbngmgaaGreatDoorBaseC
import Derived.Test.YtnhomkmfbngmgaaGreatDoorBaseD
import Derived.Lib.SliceRun
import Derived.Ground.SlgnProg
import Derived.Ground.SlgmProg
import Derived.Shelf.SlicesG.Turned
import Derived.Shelf.SlicesG.SearchI
import Derived.Shelf.SlicesG.CompactI
import Derived.Shelf.SlicesG.Cells
import Derived.Shelf.SortM.Plain
import Derived.Shelf.SortM.SortNone
import Derived.Shelf.SlGeneric
import Derived.Test.YtnhomkmfbngmgaaGreatDoorProg
import Derived.Deep.RegionHeld
import Derived.LaidMore
import Derived.LaidLaws
import Derived.HandedShaped
import Derived.Stop.LaidErr
import Derived.Lib.LaidTab
import Derived.Maps.OwnSet
import Derived.Maps.Views
import Derived.WideKeyPair
import Derived.DeepKeys4
import Derived.WalkArith
import Derived.Maps.RangeWalk
import Derived.Below
import Derived.Deep.RegionLaw
import Derived.Laws.EntriesVeiled
import Derived.Outline
import Derived.WalkSpells
import Derived.Laws.CopyOwn
import Derived.Laws.Bits64b
import Derived.StillTailTactics
import Derived.Deep.LoopGhost
import Derived.Deep.RegionHeld3
set_option maxHeartbeats 6400000
set_option maxRecDepth 100000
set_option linter.unusedSimpArgs false
set_option linter.unusedVariables false
namespace Go.Proofs.YtnhomkmfbngmgaaGreatDoor
open Go.ChangeShapes Go.WideShapes Go.ChangeAt Go.RowKit Go.Sort Go.Lib
theorem push3 (h : Array Obj) (a b o : Obj) : ((h.push a).push b).push o = h ++ #[a, b, o] := by
 apply Array.ext'
 simp
theorem grow3a (w : World) (a b o : Obj) : (((w.alloc a).alloc b).drew).alloc o = grow (w.drewN 1) #[a, b, o] := by
 unfold grow;rw [← push3]
 rfl
theorem grow3b (w : World) (a b o : Obj) : (((w.alloc a).alloc b).alloc o).drew = grow (w.drewN 1) #[a, b, o] := by
 unfold grow;rw [← push3]
 rfl
theorem compareEdgesG_calls (x1 x2 x3 y1 y2 y3 : Int) (w : World) :
  Calls Tryz.prog 122 #[.agg #[.int .i64 x1, .int .i64 x2, .int .i64 x3], .agg #[.int .i64 y1, .int .i64 y2, .int .i64 y3]] w fun e w' => e = .returned (.int .i64 (cmpE (x1, x2, x3) (y1, y2, y3))) ∧ ∃ q os, w' = grow (w.drewN q) os := by
 have hv : Hid (cmpE (x1, x2, x3) (y1, y2, y3) = orF [cmpI x1 y1, cmpI x2 y2, cmpI x3 y3]) := rfl;have hbA : Below w.heap.size w ((w.alloc (.cells #[.int .i64 x1, .int .i64 x2, .int .i64 x3] 84)).alloc (.cells #[.int .i64 y1, .int .i64 y2, .int .i64 y3] 84)) := (bR.alloc zR _).alloc (by simp only [World.size_alloc]; omega) _;have k0 := (Below.heap_alloc (w.alloc (.cells #[.int .i64 x1, .int .i64 x2, .int .i64 x3] 84)) (.cells #[.int .i64 y1, .int .i64 y2, .int .i64 y3] 84) w.heap.size (by simp only [World.size_alloc]; omega)).trans (heap_alloc_new w (.cells #[.int .i64 x1, .int .i64 x2, .int .i64 x3] 84));have k1 := heap_alloc_new (w.alloc (.cells #[.int .i64 x1, .int .i64 x2, .int .i64 x3] 84)) (.cells #[.int .i64 y1, .int .i64 y2, .int .i64 y3] 84);rw [World.size_alloc] at k1;have q := hide compare_calls;have hgr1 : Hid (∀ o : Obj, ∃ (q : Nat) (os : Array Obj), (((w.alloc (.cells #[.int .i64 x1, .int .i64 x2, .int .i64 x3] 84)).alloc (.cells #[.int .i64 y1, .int .i64 y2, .int .i64 y3] 84)).drew).alloc o = grow (w.drewN q) os) := fun o => ⟨1, _, grow3a w _ _ o⟩
 have hgr2 : Hid (∀ o : Obj, ∃ (q : Nat) (os : Array Obj), (((w.alloc (.cells #[.int .i64 x1, .int .i64 x2, .int .i64 x3] 84)).alloc (.cells #[.int .i64 y1, .int .i64 y2, .int .i64 y3] 84)).alloc o).drew = grow (w.drewN q) os) := fun o => ⟨1, _, grow3b w _ _ o⟩
 replace hbA := hide hbA;replace k0 := hide k0;replace k1 := hide k1;go_enter Tryz.func122, Tryz.ntmps122;go_wp2_with fail;generalize hW : ((w.alloc (.cells #[.int .i64 x1, .int .i64 x2, .int .i64 x3] 84)).alloc (.cells #[.int .i64 y1, .int .i64 y2, .int .i64 y3] 84)) = W at *;have a0 : W.cell? ⟨w.heap.size, 0, none⟩ = some (.int .i64 x1) := cR 0 k0.out;have a1 : W.cell? ⟨w.heap.size, 1, none⟩ = some (.int .i64 x2) := cR 1 k0.out;have a2 : W.cell? ⟨w.heap.size, 2, none⟩ = some (.int .i64 x3) := cR 2 k0.out;have b0 : W.cell? ⟨w.heap.size + 1, 0, none⟩ = some (.int .i64 y1) := cR 0 k1.out;have b1 : W.cell? ⟨w.heap.size + 1, 1, none⟩ = some (.int .i64 y2) := cR 1 k1.out;have b2 : W.cell? ⟨w.heap.size + 1, 2, none⟩ = some (.int .i64 y3) := cR 2 k1.out;clear hW
 go_region_held3 (fun w' => w'.cell? ⟨w.heap.size, 0, none⟩ = some (.int .i64 x1) ∧ w'.cell? ⟨w.heap.size, 1, none⟩ = some (.int .i64 x2) ∧ w'.cell? ⟨w.heap.size, 2, none⟩ = some (.int .i64 x3) ∧ w'.cell? ⟨w.heap.size + 1, 0, none⟩ = some (.int .i64 y1) ∧ w'.cell? ⟨w.heap.size + 1, 1, none⟩ = some (.int .i64 y2) ∧ w'.cell? ⟨w.heap.size + 1, 2, none⟩ = some (.int .i64 y3)) (first | exact ⟨a0, a1, a2, b0, b1, b2⟩ | go_keep)
  (first
   | (go_at_call 216; (with_reducible refine (q.out _ _ _).mono ?_); rintro e w' ⟨rfl, rfl⟩)
   | (go_at_call 215; (refine (or3_calls _ _ _ _ _ _ (by exact heap_alloc_new W _)).mono ?_); rintro e w' ⟨rfl, rfl⟩))
 all_goals go_wp2
 all_goals go_ret
 all_goals
  first
   | exact ⟨ret_i (by rw [hv.out]), hgr1.out _⟩
   | exact ⟨ret_i (by rw [hv.out]), hgr2.out _⟩
theorem ltOf_cmpE (a b : Ed) : ltOf cmpE a b = edLess a b := by
 have h := cmpE_less a b;unfold ltOf
 by_cases e : cmpE a b < 0
 ·rw [decide_eq_false (by omega)] at h
  have : edLess a b = true := by cases h2 : edLess a b <;> simp_all
  rw [this]; exact decide_eq_true e
 ·rw [decide_eq_true (by omega)] at h
  have : edLess a b = false := by cases h2 : edLess a b <;> simp_all
  rw [this]; exact decide_eq_false e
theorem swoE : SWO (ltOf cmpE) where
 irrefl x := by rw [ltOf_cmpE]; exact edLess_irr x
 trans x y z h1 h2 := by rw [ltOf_cmpE] at *; exact edLess_trans h1 h2
 ntrans x y z h1 h2 := by
  rw [ltOf_cmpE] at *
  by_cases e1 : x = y
  ·rw [e1]; exact h2
  ·by_cases e2 : y = z
   ·rw [← e2]; exact h1
   ·have g1 := (edLess_total e1).resolve_left (by rw [h1]; decide)
    have g2 := (edLess_total e2).resolve_left (by rw [h2]; decide);exact Bool.eq_false_iff.2 fun h => by
     have := edLess_trans (edLess_trans h g2) g1;rw [edLess_irr] at this; cases this
theorem apartE (x y : Ed) (h : ltOf cmpE x y = false) (g : ltOf cmpE y x = false) : x = y := by
 rw [ltOf_cmpE] at h g
 by_cases e : x = y
 ·exact e
 ·rcases edLess_total e with h1 | h1
  ·rw [h] at h1; cases h1
  ·rw [g] at h1; cases h1
def sortE (l : List Ed) : List Ed := l.mergeSort fun x y => !(ltOf cmpE) y x
theorem sortE_len (l : List Ed) : (sortE l).length = l.length := List.length_mergeSort _
theorem sortE_mem {l : List Ed} {x : Ed} : x ∈ sortE l ↔ x ∈ l := List.mem_mergeSort
theorem sortE_le (l : List Ed) : (sortE l).Pairwise fun x y => edLess y x = false := by
 have := List.pairwise_mergeSort (le := fun x y : Ed => !(ltOf cmpE) y x) (fun a b c h1 h2 => by
  simp only [Bool.not_eq_true', ltOf_cmpE] at *;exact Bool.eq_false_iff.2 fun h => by
   by_cases e : a = b
   ·rw [e] at h; rw [h] at h2; cases h2
   ·have g := (edLess_total e).resolve_right (by rw [h1]; decide)
    have := edLess_trans h g;rw [this] at h2; cases h2) (fun a b => by
  simp only [Bool.or_eq_true, Bool.not_eq_true', ltOf_cmpE]
  by_cases h : edLess b a = true
  ·right
   exact Bool.eq_false_iff.2 fun g => by
    have := edLess_trans h g;rw [edLess_irr] at this; cases this
  ·left; exact Bool.eq_false_iff.2 h) l
 exact this.imp fun h => by simpa [ltOf_cmpE] using h
section
variable {w : World} {base g n c q : Nat} {e : TypeId} {l d : List Ed} {os : Array Obj}
theorem flatE_get (d : List Ed) {j : Nat} (hj : j < d.length * 3) : (flatK ev 3 d.toArray)[j]? = (d.flatMap ev)[j]? := by
 have h1 : (flatK ev 3 d.toArray)[j]? = some ((flatK ev 3 d.toArray)[j]!) := by
  rw [getElem!_pos _ j (by simpa using hj), Array.getElem?_eq_getElem (by simpa using hj)]
 rw [h1, get_flatK ev 3 d.toArray j (by simpa using hj)];have hk : j / 3 < d.length := by omega
 have := flat_at flat_ev d (j / 3) d[j / 3] (List.getElem?_eq_getElem hk) (j % 3) ((ev d[j / 3])[j % 3]'(by rw [flat_ev.len]; omega)) (List.getElem?_eq_getElem _);rw [show j / 3 * 3 + j % 3 = j by omega] at this;rw [this, getElem!_pos _ (j / 3) (by simpa using hk)];simp only [List.getElem_toArray];rw [getElem!_pos _ (j % 3) (by rw [flat_ev.len]; omega)]
theorem Own.holdsE (h : Own 3 ev w base e (some ⟨g, 0, none⟩) n c l) : HoldsK ev 3 w g 0 l.toArray := by
 intro j hj;have hj' : j < l.length * 3 := by simpa using hj
 have hs := h.sl flat_ev;have hn := h.len;obtain ⟨b', off', e', -, -, -, hc⟩ := hs.at_ (by omega)
 cases e'
 have hk : j / 3 < l.length := by omega
 have h1 := flatE_get l hj';have h2 := flat_at flat_ev l (j / 3) l[j / 3] (List.getElem?_eq_getElem hk) (j % 3) ((ev l[j / 3])[j % 3]'(by rw [flat_ev.len]; omega)) (List.getElem?_eq_getElem _);rw [show j / 3 * 3 + j % 3 = j by omega] at h2;rw [h2] at h1;have h3 : (flatK ev 3 l.toArray)[j]! = (ev l[j / 3])[j % 3]'(by rw [flat_ev.len]; omega) := by
  rw [getElem!_pos _ j (by simpa using hj)];have := Array.getElem?_eq_getElem (xs := flatK ev 3 l.toArray) (i := j) (by simpa using hj);rw [this] at h1;exact Option.some.inj h1
 have := hc (j / 3) l[j / 3] (List.getElem?_eq_getElem hk) (j % 3) _ (List.getElem?_eq_getElem (by rw [flat_ev.len]; omega));rw [show j / 3 * 3 + j % 3 = j by omega] at this
 show w.cell? ⟨g, 0 + j, none⟩ = some (id ((flatK ev 3 l.toArray)[j]!)) ∧ _
 rw [h3];exact this
theorem putE_block (w : World) (g q : Nat) (F : Array Value) (os : Array Obj) (hg : g < w.heap.size) :
  (grow (putRow id (Sort.ahead w q) g 0 F) os).heap[g]? = (w.heap[g]?).map (onCells (Go.Sort.putCells id 0 F)) := by
 rw [heap_grow_old _ _ (by simpa [putRow, mapBlock, Sort.ahead] using hg)]
 simp [putRow, mapBlock, Sort.ahead, Array.getElem?_modify]
theorem putE_grown (w : World) (g q : Nat) (F : Array Value) (os : Array Obj) : w.grownBy (grow (putRow id (Sort.ahead w q) g 0 F) os) (some g) := by
 refine ⟨rfl, rfl, rfl, by simp [putRow, mapBlock, Sort.ahead], fun k hk hne => ?_⟩;rw [heap_grow_old _ _ (by simpa [putRow, mapBlock, Sort.ahead] using hk)];have hne' : g ≠ k := fun h => hne (by rw [h])
 simp [putRow, mapBlock, Sort.ahead, Array.getElem?_modify, hne']
theorem Own.putK (h : Own 3 ev w base e (some ⟨g, 0, none⟩) n c l) (hd : d.length = n) : Own 3 ev (sortWorldK ev 3 w g 0 q d.toArray os) base e (some ⟨g, 0, none⟩) n c d := by
 rcases h.2.2 with ⟨hv, -⟩ | ⟨g', cap, cur, hv, hb, hg, hnc, hcm, hcs, htake⟩
 ·cases hv
 ·cases hv
  have hlt : g < w.heap.size := (Array.getElem?_eq_some_iff.1 hg).1;refine ⟨hd, by rw [flat_length flat_ev, hd], .inr ⟨g, c, Go.Sort.putCells id 0 (flatK ev 3 d.toArray) cur, rfl, hb, ?_, hnc, hcm, by simp [Go.Sort.putCells, hcs], ?_⟩⟩
  ·unfold sortWorldK putRowK
   rw [putE_block _ _ _ _ _ hlt, hg]
   rfl
  ·apply List.ext_getElem?
   intro k
   by_cases hk : k < n * 3
   ·have hkc : k < cur.size := by omega
    rw [List.getElem?_take, if_pos hk, Array.getElem?_toList];simp only [Go.Sort.putCells, Array.getElem?_mapIdx, Array.getElem?_eq_getElem hkc, Option.map_some];rw [if_pos ⟨Nat.zero_le _, by simp [hd]; omega⟩, Nat.sub_zero];have := flatE_get d (j := k) (by rw [hd]; exact hk);rw [← this, Array.getElem?_eq_getElem (by simp [hd]; omega), getElem!_pos _ k (by simp [hd]; omega)]
    rfl
   ·rw [List.getElem?_eq_none (by simp; omega), List.getElem?_eq_none (by rw [flat_length flat_ev, hd]; omega)]
end
section
variable {w : World} {base n c : Nat} {A : Option Addr} {l : List Ed}
theorem sortE_calls (h : Own 3 ev w base 84 A n c l) (hn : n ≤ 1000000000) :
  Calls Tryz.prog 132 #[.slice A n c, .func (.func 122) #[] #[]] w fun e w' => e = .returned (.tuple #[]) ∧ Own 3 ev w' base 84 A n c (sortE l) ∧ w.grownBy w' (Value.slice A n c).ownBlock := by
 rcases h.2.2 with ⟨hv, hn0⟩ | ⟨g, cap, cur, hv, hb, hg, hnc, hcm, hcs, htake⟩
 ·cases hv
  have hl := List.eq_nil_of_length_eq_zero h.len;subst hl;refine (Tryz.slices_SortFunc_edge_none none 0 _ w).mono ?_;rintro e w' ⟨rfl, rfl⟩;refine ⟨rfl, ?_, ⟨rfl, rfl, rfl, zR, fun _ _ _ => rfl⟩⟩
  simpa [sortE] using h
 ·cases hv
  have hlt : g < w.heap.size := (Array.getElem?_eq_some_iff.1 hg).1;have eg : ∀ args w, (callFunc 122 args).run Tryz.prog w = .ok (.enter 122 args) w := enters_of Tryz.func122 (by kernel_rfl) rfl;have hsz : l.toArray.size = n := by simp [h.len]
  have hcmp : CmpLays Tryz.prog 122 #[] ev 3 cmpE g 0 l.toArray.size w := fun m os dk hs x y => compareEdgesG_calls x.1 x.2.1 x.2.2 y.1 y.2.1 y.2.2 _
  have hq := Tryz.slices_SortFunc_edge ev (fun x => flat_ev.len x) (fun x v hv => flat_ev.one x v hv) cmpE swoE 122 #[] g 0 c l.toArray w eg hcmp h.holdsE hlt (by rw [hsz]; omega) apartE;rw [hsz] at hq;refine hq.mono ?_;rintro e w' ⟨rfl, q, os, rfl⟩;exact ⟨rfl, h.putK (d := sortE l) ((sortE_len l).trans h.len), putE_grown _ _ _ _ _⟩
end
theorem setCells_heap9 (g : Nat) (e : TypeId) : ∀ (vs : List Value) (o : Nat) (w : World) (cur : Array Value), w.heap[g]? = some (.cells cur e (0, 0)) → ∃ cur' : Array Value, (w.setCells g o vs).heap[g]? = some (.cells cur' e (0, 0)) ∧ cur'.size = cur.size ∧ ∀ i, i < o → cur'[i]? = cur[i]?
 | [], o, w, cur, h => ⟨cur, h, rfl, fun _ _ => rfl⟩
 | v :: r, o, w, cur, h => by
  have h1 := heap_setCell_same w g o cur _ v h;obtain ⟨cur', a, b, c⟩ := setCells_heap9 g e r (o + 1) _ _ h1;refine ⟨cur', a, by rw [b]; simp, fun i hi => ?_⟩;rw [c i (by omega), Array.getElem?_setIfInBounds_ne (by omega)]
theorem setCells_only9 (g : Nat) : ∀ (vs : List Value) (o : Nat) (w : World), Only g (g + 1) w (w.setCells g o vs)
 | [], o, w => Only.refl _ _ _
 | v :: r, o, w => by
  have h1 := (Only.refl g (g + 1) w).setCell (p := ⟨g, o, none⟩) zR (Nat.lt_succ_self _) v;exact h1.trans' (setCells_only9 g r (o + 1) _)
theorem Own.clearE {w : World} {base g n c k : Nat} {e : TypeId} {l : List Ed} (h : Own 3 ev w base e (some ⟨g, 0, none⟩) n c l) (hk : k ≤ n) (vs : List Value) : Own 3 ev (w.setCells g (k * 3) vs) base e (some ⟨g, 0, none⟩) k c (l.take k) := by
 rcases h.2.2 with ⟨hv, -⟩ | ⟨g', cap, cur, hv, hb, hg, hnc, hcm, hcs, htake⟩
 ·cases hv
 ·cases hv
  have hn := h.len;have hl : (l.take k).length = k := by rw [List.length_take]; omega
  obtain ⟨cur', a, b, d⟩ := setCells_heap9 g e vs (k * 3) w cur hg;refine ⟨hl, by rw [flat_length flat_ev, hl], .inr ⟨g, c, cur', rfl, hb, a, by omega, hcm, by rw [b]; exact hcs, ?_⟩⟩
  apply List.ext_getElem?
  intro i
  by_cases hi : i < k * 3
  ·rw [List.getElem?_take, if_pos hi, Array.getElem?_toList, d i hi]
   have h1 : (cur.toList.take (n * 3))[i]? = (l.flatMap ev)[i]? := by rw [htake]
   rw [List.getElem?_take, if_pos (by omega), Array.getElem?_toList] at h1;rw [h1];have h2 : l.flatMap ev = (l.take k).flatMap ev ++ (l.drop k).flatMap ev := by rw [← List.flatMap_append, List.take_append_drop]
   rw [h2, List.getElem?_append_left (by rw [flat_length flat_ev, hl]; exact hi)]
  ·rw [List.getElem?_eq_none (by simp; omega), List.getElem?_eq_none (by rw [flat_length flat_ev, hl]; omega)]
theorem run_clearE (w : World) (ty : TypeId) (b o n c : Nat) (hn : 0 < n) (hc : ∀ j, j < n * 3 → (w.cell? ⟨b, o + j, none⟩).isSome = true) (hf : ∀ j, j < n * 3 → w.frozen? ⟨b, o + j, none⟩ = false) :
  (Builtin.clear_ #[25] ty #[.slice (some ⟨b, o, none⟩) n c]).run Tryz.prog w = .ok (.tuple #[]) (w.setCells b o (List.replicate (n * 3) (.int .i64 0))) := by
 have hv : ∀ w, (zeroValue 84).run Tryz.prog w = .ok (.agg #[.int .i64 0, .int .i64 0, .int .i64 0]) w := fun w => by kernel_rfl
 have hzc : (Builtin.zeroCells (Value.agg #[.int .i64 0, .int .i64 0, .int .i64 0]).cells n).toList = List.replicate (n * 3) (.int .i64 0) := by
  have e : (Value.agg #[.int .i64 0, .int .i64 0, .int .i64 0]).cells = #[.int .i64 0, .int .i64 0, .int .i64 0] := rfl;rw [e]
  apply List.ext_getElem
  ·simp [Builtin.zeroCells, Nat.mul_comm]
  ·intro i h1 h2
   simp only [Builtin.zeroCells, List.getElem_replicate];have : i % 3 = 0 ∨ i % 3 = 1 ∨ i % 3 = 2 := by omega
   rcases this with h | h | h <;> simp [h]
 have hst := run_storeCells_cells (P := Tryz.prog) b o (List.replicate (n * 3) (.int .i64 0)) 0 w (by simpa using hc) (by simpa using hf) (by intro v hv'; rw [List.eq_of_mem_replicate hv']; rfl);simp only [Nat.add_zero] at hst;obtain ⟨m, rfl⟩ : ∃ m, n = m + 1 := ⟨n - 1, by omega⟩
 simp [Builtin.clear_, run_underlying Tryz.underlying25, hv, hzc, hst]
theorem ed_cases (x1 x2 x3 y1 y2 y3 : Int) : (y1 = x1 ∧ y2 = x2 ∧ y3 = x3) ∨ (((x1, x2, x3) : Ed) ≠ (y1, y2, y3) ∧ ((x1 == y1) = false ∨ (y1 = x1 ∧ (x2 == y2) = false) ∨ (y1 = x1 ∧ y2 = x2 ∧ (x3 == y3) = false))) := by
 by_cases a : x1 = y1
 ·by_cases b : x2 = y2
  ·by_cases c : x3 = y3
   ·exact .inl ⟨a.symm, b.symm, c.symm⟩
   ·exact .inr ⟨fun e => c (by injection e with _ e; injection e with _ e), .inr (.inr ⟨a.symm, b.symm, beq_eq_false_iff_ne.2 c⟩)⟩
  ·exact .inr ⟨fun e => b (by injection e with _ e; injection e with e _), .inr (.inl ⟨a.symm, beq_eq_false_iff_ne.2 b⟩)⟩
 ·exact .inr ⟨fun e => a (by injection e with e _), .inl (beq_eq_false_iff_ne.2 a)⟩
theorem gete {l : List Ed} {k : Nat} {x : Ed} (h : l[k]? = some x) : l.toArray[k]! = x := by
 obtain ⟨h1, h2⟩ := List.getElem?_eq_some_iff.1 h;rw [getElem!_pos _ k (by simpa using h1)]
 simpa using h2
theorem only_grown {w w' : World} {g : Nat} (h : Only g (g + 1) w w') : w.grownBy w' (some g) := ⟨h.os, h.tape, h.output, h.size, fun k hk hne => h.block k hk (by
 have : g ≠ k := fun e => hne (by rw [e])
 omega)⟩
theorem cells_all {w : World} {base g n c j : Nat} {e : TypeId} {l : List Ed} (h : Own 3 ev w base e (some ⟨g, 0, none⟩) n c l) (hj : j < n * 3) :
  (w.cell? ⟨g, j, none⟩).isSome = true ∧ w.frozen? ⟨g, j, none⟩ = false := by
 obtain ⟨g', o', x1, x2, x3, ex, -, -, -, hx, c0, c1, c2, f0, f1, f2⟩ := SlE.get (h.sl flat_ev) (show j / 3 < n by omega)
 cases ex
 rw [Nat.zero_add] at c0 c1 c2 f0 f1 f2;have : j = j / 3 * 3 ∨ j = j / 3 * 3 + 1 ∨ j = j / 3 * 3 + 2 := by omega
 rcases this with e | e | e <;> rw [e]
 ·exact ⟨by rw [c0]; rfl, f0⟩
 ·exact ⟨by rw [c1]; rfl, f1⟩
 ·exact ⟨by rw [c2]; rfl, f2⟩
theorem _root_.Go.Lib.CompInv.takeE {l M : List Ed} {m kk n : Nat} (h : CompInv l.toArray m kk M.toArray) (hl : l.length = n) (hm : m = n) : M.take kk = Lib.compact l := by
 subst hm;have h1 : Lib.compact l = compactUpTo l.toArray m := by unfold compact; rw [hl]
 have h2 := h.size;have h3 := h.lt;simp only [List.size_toArray] at h2;rw [h1]
 apply List.ext_getElem?
 intro j
 by_cases hj : j < kk
 ·rw [h.low j hj, List.getElem?_take, if_pos hj, List.getElem?_eq_getElem (show j < M.length by omega), getElem!_pos _ j (by simp; omega)]
  simp
 ·rw [List.getElem?_eq_none (by simp; omega), List.getElem?_eq_none (by rw [h.len]; omega)]
theorem compactE_mem {l : List Ed} {x : Ed} : x ∈ Lib.compact l ↔ x ∈ l := by
 unfold Lib.compact Lib.compactUpTo;rw [List.mem_map]
 constructor
 ·rintro ⟨k, hk, rfl⟩
  have hk' := List.mem_range.1 (List.mem_filter.1 hk).1;rw [getElem!_pos _ k (by simpa using hk')]
  simp
 ·intro hx
  obtain ⟨k, hk, rfl⟩ := List.mem_iff_getElem.1 hx;have key : ∀ k, (hk : k < l.length) → ∃ a, a ∈ (List.range l.length).filter (Lib.keeps l.toArray) ∧ l.toArray[a]! = l[k] := by
   intro k
   induction k with
   | zero => exact fun hk => ⟨0, List.mem_filter.2 ⟨List.mem_range.2 hk, by simp [Lib.keeps]⟩, by rw [getElem!_pos _ 0 (by simpa using hk)]; simp⟩
   | succ k ih =>
    intro hk
    by_cases h : l.toArray[k + 1]! = l.toArray[k]!
    ·obtain ⟨a, ha, e⟩ := ih (by omega)
     refine ⟨a, ha, ?_⟩;rw [e];rw [getElem!_pos _ (k + 1) (by simpa using hk), getElem!_pos _ k (by simp; omega)] at h
     simpa using h.symm
    ·exact ⟨k + 1, List.mem_filter.2 ⟨List.mem_range.2 hk, Lib.keeps_pos (by simpa using h)⟩, by rw [getElem!_pos _ (k + 1) (by simpa using hk)]; simp⟩
  exact key k hk
theorem compactE_len (l : List Ed) : (Lib.compact l).length ≤ l.length := by
 unfold Lib.compact Lib.compactUpTo;rw [List.length_map];exact Nat.le_trans (List.length_filter_le _ _) (by simp)
theorem compactE_calls {w : World} {base n c : Nat} {A : Option Addr} {l : List Ed} (h : Own 3 ev w base 84 A n c l) (hn : n ≤ 1000000000) (hnc : n ≤ c) :
  Calls Tryz.prog 228 #[.slice A n c] w fun e w' => e = .returned (.slice A (Lib.compact l).length c) ∧ Own 3 ev w' base 84 A (Lib.compact l).length c (Lib.compact l) ∧ w.grownBy w' (Value.slice A n c).ownBlock := by
 have hll := h.len
 by_cases hn2 : n < 2
 ·have g1 : (n : Int) < 2 := by omega
  have hc0 : Lib.compact l = l := compact_all l fun j hj => by
   have : j = 0 := by omega
   subst this
   simp [keeps]
  rw [hc0, hll];replace h := hide h;go_enter Tryz.func228, Tryz.ntmps228;go_wp2_with fail;go_ret;exact ⟨rfl, h.out, ⟨rfl, rfl, rfl, zR, fun _ _ _ => rfl⟩⟩
 have g1 : ¬ (n : Int) < 2 := by omega
 have hEe := hide elem_edge;obtain ⟨g, rfl, hbg⟩ := h.neE (by omega);have hbl := (h.lt g rfl).2
 show Calls _ _ _ _ fun e w' => _ ∧ _ ∧ w.grownBy w' (some g)
 replace h := hide h;go_enter Tryz.func228, Tryz.ntmps228;go_wp2_with fail
 go_loopw [3] (fun v wr => ∃ u : Nat, u + 1 ≤ n ∧ v = .int .i64 ((u + 1 : Nat) : Int) ∧ Hid (∃ nq, wr = w.drewN nq) ∧ Hid (∀ j, j ≤ u → keeps l.toArray j = true)) (fun v _ => n - (intOf v).toNat)
 case atStart => exact ⟨0, by omega, rfl, ⟨0, rfl⟩, fun j hj => by
  have : j = 0 := by omega
  subst this
  simp [keeps]⟩
 case round =>
  obtain ⟨u, hu, rfl, hw, hall⟩ := hrel;have hO : Hid (Own 3 ev wr base 84 (some ⟨g, 0, none⟩) n c l) := by
   obtain ⟨nq, e⟩ := hw.out
   show Own _ _ _ _ _ _ _ _ _
   rw [e];exact h.out.keep fun _ _ => rfl
  by_cases hlt : u + 1 < n
  ·have k1 : ((u + 1 : Nat) : Int) < (n : Int) := by omega
   have k0 : (0 : Int) ≤ ((u + 1 : Nat) : Int) := by omega
   have hi1 : IntKind.i64.wrap (((u + 1 : Nat) : Int) - 1) = (u : Int) := by rw [IntWalk.i64_in _ (by omega)]; omega
   have hi2 : ((u + 1 : Nat) : Int) - 1 = (u : Int) := by omega
   have u0 : (0 : Int) ≤ (u : Int) := by omega
   have u1 : (u : Int) < (n : Int) := by omega
   obtain ⟨gx, ox, x1, x2, x3, ex, -, -, -, hx, c0, c1, c2, -⟩ := SlE.get (hO.out.sl flat_ev) hlt;obtain ⟨gy, oy, y1, y2, y3, ey, -, -, -, hy, d0, d1, d2, -⟩ := SlE.get (hO.out.sl flat_ev) (show u < n by omega)
   cases ex
   cases ey
   rw [Nat.zero_add] at c0 c1 c2 d0 d1 d2
   rcases ed_cases x1 x2 x3 y1 y2 y3 with ⟨e1, e2, e3⟩ | ⟨hne, hc⟩
   ·subst e1 e2 e3
    have hdup : Hid (keeps l.toArray (u + 1) = false) := keeps_neg (by omega) (by rw [gete hx]; exact (gete hy).symm);have hs1 : ∀ W : World, (Instr.slice 25 (.slice (some ⟨g, 0, none⟩) n c) (some (.int .i64 ((u + 1 : Nat) : Int))) none none).run Tryz.prog W = .ok (.slice (some ⟨g, (u + 1) * 3, none⟩) (n - (u + 1)) (c - (u + 1))) W := fun W => by
     rw [run_cut hEe.out _ n c (u + 1) (by omega) W];unfold cutA;rw [if_neg (by omega)]
     simp [Addr.add]
    go_upto_region 6 with fail;go_quiet (fail);obtain ⟨wi, hwi⟩ : ∃ wi, wi = wr.drewN nq := ⟨_, rfl⟩;have hOi : Hid (Own 3 ev wi base 84 (some ⟨g, 0, none⟩) n c l) := by rw [hwi]; exact hO.out.keep fun _ _ => rfl
    have hon : Hid (Only g (g + 1) w wi) := by
     obtain ⟨nq2, e⟩ := hw.out;rw [hwi, e];exact ⟨rfl, rfl, rfl, zR, fun _ _ _ => rfl⟩
    rw [← hwi];replace hwi := hide hwi;replace hx := hide hx;replace hy := hide hy;clear c0 c1 c2 d0 d1 d2 hO hw;go_wp2_with fail;obtain ⟨wQ, rfl⟩ : ∃ wQ : World, wQ = wr := ⟨_, rfl⟩
    go_loopw [3, 5] (fun v3 v5 wz => ∃ (kk v : Nat) (M : List Ed), v3 = .int .i64 (kk : Nat) ∧ v5 = .int .i64 ((v + 1 : Nat) : Int) ∧ u + 1 + v + 1 ≤ n ∧ Hid (Own 3 ev wz base 84 (some ⟨g, 0, none⟩) n c M) ∧ Hid (CompInv l.toArray (u + 1 + v + 1) kk M.toArray) ∧ Hid (Only g (g + 1) w wz)) (fun _ v _ => n - (intOf v).toNat)
    case atStart => exact ⟨u + 1, 0, l, rfl, rfl, by omega, hOi.out, CompInv.start (fun j hj => hall.out j (by omega)) hdup.out, hon.out⟩
    case round =>
     clear hOi hon;obtain ⟨kk, v, M, rfl, rfl, hv, hOM, hI, hon⟩ := hrel;have hMl := hOM.out.len;have hkm := hI.out.lt
     by_cases hlt2 : u + 1 + (v + 1) < n
     ·have k2 : ((v + 1 : Nat) : Int) < ((n - (u + 1) : Nat) : Int) := by omega
      have k20 : (0 : Int) ≤ ((v + 1 : Nat) : Int) := by omega
      have hi3 : IntKind.i64.wrap (((v + 1 : Nat) : Int) - 1) = (v : Int) := by rw [IntWalk.i64_in _ (by omega)]; omega
      have hi4 : ((v + 1 : Nat) : Int) - 1 = (v : Int) := by omega
      have v0 : (0 : Int) ≤ (v : Int) := by omega
      have v1 : (v : Int) < ((n - (u + 1) : Nat) : Int) := by omega
      have kk0 : (0 : Int) ≤ (kk : Int) := by omega
      have kk1 : (kk : Int) < (n : Int) := by omega
      have hki : IntKind.i64.wrap ((kk : Int) + 1) = ((kk + 1 : Nat) : Int) := by rw [IntWalk.i64_in _ (by omega)]; omega
      have hvi : IntKind.i64.wrap (((v + 1 : Nat) : Int) + 1) = ((v + 1 + 1 : Nat) : Int) := by rw [IntWalk.i64_in _ (by omega)]; omega
      obtain ⟨gx, ox, x1, x2, x3, ex, -, -, -, hx, c0, c1, c2, -⟩ := SlE.get (hOM.out.sl flat_ev) hlt2;obtain ⟨gy, oy, y1, y2, y3, ey, -, -, -, hy, d0, d1, d2, -⟩ := SlE.get (hOM.out.sl flat_ev) (show u + 1 + v < n by omega);obtain ⟨gz, oz, z1, z2, z3, ez, -, -, -, hz, z0c, z1c, z2c, z0f, z1f, z2f⟩ := SlE.get (hOM.out.sl flat_ev) (show kk < n by omega)
      cases ex
      cases ey
      cases ez
      rw [Nat.zero_add] at c0 c1 c2 d0 d1 d2 z0c z1c z2c z0f z1f z2f;rw [show (u + 1 + (v + 1)) * 3 = (u + 1) * 3 + (v + 1) * 3 from Nat.add_mul _ _ _] at c0 c1 c2;rw [show (u + 1 + v) * 3 = (u + 1) * 3 + v * 3 from Nat.add_mul _ _ _] at d0 d1 d2;have hx' : l.toArray[u + 1 + v + 1]! = (x1, x2, x3) := by
       rw [← hI.out.high (u + 1 + v + 1) (by omega)];exact gete hx
      have hy' : l.toArray[u + 1 + v]! = (y1, y2, y3) := by
       rw [← hI.out.high _ (by omega)];exact gete hy
      replace hx := hide hx;replace hy := hide hy;replace hz := hide hz;replace hx' := hide hx';replace hy' := hide hy'
      rcases ed_cases x1 x2 x3 y1 y2 y3 with ⟨e1, e2, e3⟩ | ⟨hne, hc⟩
      ·subst e1 e2 e3
       have hI2 : Hid (CompInv l.toArray (u + 1 + v + 1 + 1) kk M.toArray) := hI.out.skip (keeps_neg (by omega) (by rw [hx'.out, show u + 1 + v + 1 - 1 = u + 1 + v by omega]; exact hy'.out.symm));go_upto_region 11 with fail;go_quiet (fail);obtain ⟨wj, hwj⟩ : ∃ wj, wj = wr.drewN nq := ⟨_, rfl⟩;have hOj : Hid (Own 3 ev wj base 84 (some ⟨g, 0, none⟩) n c M) := by rw [hwj]; exact hOM.out.keep fun _ _ => rfl
       have hoj : Hid (Only g (g + 1) w wj) := by rw [hwj]; exact ⟨hon.out.os, hon.out.tape, hon.out.output, hon.out.size, hon.out.block⟩
       rw [← hwj];replace hwj := hide hwj;clear c0 c1 c2 d0 d1 d2 z0c z1c z2c z0f z1f z2f;go_wp2_with fail;go_roundw
       ·exact ⟨kk, v + 1, M, rfl, rfl, by omega, hOj.out, hI2.out, hoj.out⟩
       ·simp [intOf]; omega
      ·have hI2 : Hid (CompInv l.toArray (u + 1 + v + 1 + 1) (kk + 1) (M.set kk (x1, x2, x3)).toArray) := by
        have h1 := hI.out.keep (by simp; omega) (keeps_pos (by rw [hx'.out, show u + 1 + v + 1 - 1 = u + 1 + v by omega, hy'.out]; exact hne));rw [hx'.out, List.setIfInBounds_toArray] at h1;exact h1
       replace hne := hide hne
       rcases hc with e3 | ⟨e4, e3⟩ | ⟨e4, e5, e3⟩
       rotate_left
       subst e4
       rotate_left
       subst e4 e5
       rotate_left
       all_goals
        go_upto_region 11 with fail;go_quiet (fail);go_wp2_with fail;go_roundw
       all_goals
        first
         | refine ⟨kk + 1, v + 1, M.set kk (_, _, _), by go_num, by go_num, by omega, (hOM.out.keep fun _ _ => rfl).setE kk _ _ _, hI2.out, ?_⟩
         | (simp [intOf]; omega)
       all_goals
        have o1 : Only g (g + 1) w (wr.drewN nq) := ⟨hon.out.os, hon.out.tape, hon.out.output, hon.out.size, hon.out.block⟩;have o2 := fun v => o1.setCell (p := ⟨g, kk * 3, none⟩) zR (Nat.lt_succ_self _) v
        have o3 := fun v u => (o2 v).setCell (p := ⟨g, kk * 3 + 1, none⟩) zR (Nat.lt_succ_self _) u
        exact (o3 _ _).setCell (p := ⟨g, kk * 3 + 2, none⟩) zR (Nat.lt_succ_self _) _
     ·have hend : u + 1 + v + 1 = n := by omega
      have hcl := run_clearE wr 0 g (kk * 3) (n - kk) (c - kk) (by omega) (fun j hj => (cells_all hOM.out (j := kk * 3 + j) (by omega)).1) (fun j hj => (cells_all hOM.out (j := kk * 3 + j) (by omega)).2);have hcO := hide (hOM.out.clearE (k := kk) (by omega) (List.replicate ((n - kk) * 3) (.int .i64 0)));have hcon := hide (hon.out.trans' (setCells_only9 g (List.replicate ((n - kk) * 3) (.int .i64 0)) (kk * 3) wr));have hcL := hide (show M.take kk = Lib.compact l from hI.out.takeE hll hend);have hcn : (Lib.compact l).length = kk := by rw [← hcL.out, List.length_take]; omega
      have hs2 := run_head hEe.out (some ⟨g, 0, none⟩) n c kk (by omega);generalize wr.setCells g (kk * 3) (List.replicate ((n - kk) * 3) (.int .i64 0)) = wC at *;go_wp2_with fail;go_ret;have e1 := hcO.out;rw [hcL.out] at e1;rw [hcn];exact ⟨rfl, e1, only_grown hcon.out⟩
   ·have hkeep : Hid (∀ j, j ≤ u + 1 → keeps l.toArray j = true) := fun j hj => by
     by_cases e : j = u + 1
     ·subst e
      exact keeps_pos (by rw [gete hx]; simp only [Nat.add_sub_cancel]; rw [gete hy]; exact hne)
     ·exact hall.out j (by omega)
    replace hx := hide hx;replace hy := hide hy;replace hne := hide hne
    rcases hc with e3 | ⟨e4, e3⟩ | ⟨e4, e5, e3⟩
    rotate_left
    subst e4
    rotate_left
    subst e4 e5
    rotate_left
    all_goals
     go_upto_region 6 with fail;go_quiet (fail);obtain ⟨wi, hwi⟩ : ∃ wi, wi = wr.drewN nq := ⟨_, rfl⟩;have hw2 : Hid (∃ nq, wi = w.drewN nq) := by
      obtain ⟨nq2, e⟩ := hw.out;exact ⟨nq2 + nq, by rw [hwi, e, World.drewN_drewN]⟩
     rw [← hwi];replace hwi := hide hwi;clear c0 c1 c2 d0 d1 d2 e3;go_wp2_with fail;go_roundw
    all_goals
     first
      | exact ⟨u + 1, by omega, by go_num, hw2.out, hkeep.out⟩
      | (simp [intOf]; omega)
  ·obtain rfl : u + 1 = n := by omega
   have hcL : Lib.compact l = l := compact_all l fun j hj => hall.out j (by omega)
   have hon : Hid (w.grownBy wr (some g)) := by
    obtain ⟨nq, e⟩ := hw.out
    show w.grownBy wr (some g)
    rw [e];exact ⟨rfl, rfl, rfl, zR, fun _ _ _ => rfl⟩
   go_wp2_with fail;go_ret
   rw [hcL, hll];exact ⟨rfl, hO.out, hon.out⟩
end Go.Proofs.YtnhomkmfbngmgaaGreatDoor
namespace Go.Proofs
open Go.Shelf
def Tryz.laysCompactI_ren : Go.Shelf.Ren := ⟨fun | 43 => 161 | n => n, fun | 22 => 32 | 23 => 2 | 3 => 3 | 4 => 4 | 0 => 0 | n => n, fun | n => n⟩
theorem Tryz.laysCompactI : Go.Proofs.SlLaysN.n43 Tryz.prog Tryz.laysCompactI_ren := {
 mixed := by kernel_rfl
 f43 := ⟨Tryz.f161.name, by decide, Tryz.func161.trans (congrArg some (by kernel_rfl))⟩
 t0 := Tryz.underlying0
 a0 := Tryz.isAgg0
 z0 := Tryz.sizeOf0
 v0 := Tryz.zeroValue0
 t3 := Tryz.underlying3
 a3 := Tryz.isAgg3
 z3 := Tryz.sizeOf3
 v3 := Tryz.zeroValue3
 t4 := Tryz.underlying4
 a4 := Tryz.isAgg4
 z4 := Tryz.sizeOf4
 v4 := Tryz.zeroValue4
 t22 := Tryz.underlying32
 a22 := Tryz.isAgg32
 z22 := Tryz.sizeOf32
 v22 := Tryz.zeroValue32
 t23 := Tryz.underlying2
 a23 := Tryz.isAgg2
 z23 := Tryz.sizeOf2
 v23 := Tryz.zeroValue2
 i23 := by kernel_rfl }
open Go.RowKit Go.Lib Go.Sort in
theorem Tryz.slices_Compact_int (blk off cap : Nat) (zs : List Int) (w : World) (hH : Holds (Value.int .i64) w blk off zs.toArray) (hsz : zs.length ≤ 9223372036854775807) (hcap : zs.length ≤ cap) :
  Calls Tryz.prog 161 #[.slice (some ⟨blk, off, none⟩) zs.length cap] w fun e w' => e = .returned (.slice (some ⟨blk, off, none⟩) (Lib.compact zs).length cap) ∧ ∃ q, w' = putRow (Value.int .i64) (Sort.ahead w q) blk off (Lib.compact zs ++ List.replicate (zs.length - (Lib.compact zs).length) 0).toArray := AnyG.slices_Compact_int Tryz.laysCompactI blk off cap zs w hH hsz hcap
open Go.RowKit Go.Lib Go.Sort in
theorem Tryz.slices_Compact_int_empty (a : Option Addr) (cap : Nat) (w : World) :
  Calls Tryz.prog 161 #[.slice a 0 cap] w fun e w' => e = .returned (.slice a 0 cap) ∧ w' = w := AnyG.slices_Compact_int_empty Tryz.laysCompactI a cap w
def Tryz.laysSortI_ren : Go.Shelf.Ren := ⟨fun | 5 => 160 | 8 => 224 | 7 => 238 | 19 => 289 | 20 => 290 | 10 => 295 | 11 => 296 | 12 => 297 | 13 => 298 | 14 => 299 | 15 => 300 | 16 => 301 | 17 => 302 | 18 => 303 | 30 => 354 | 31 => 340 | 32 => 341 | 33 => 355 | 34 => 356 | 35 => 274 | 40 => 383 | n => n, fun | 23 => 32 | 25 => 2 | 3 => 3 | 32 => 243 | 22 => 32 | 0 => 0 | 44 => 292 | 46 => 137 | 4 => 4 | 36 => 285 | 35 => 284 | 41 => 289 | 5 => 5 | 9 => 9 | 53 => 327 | 57 => 331 | 63 => 352 | 64 => 353 | n => n, fun | n => n⟩
theorem Tryz.laysSortI : Go.Proofs.SlLaysM.n5 Tryz.prog Tryz.laysSortI_ren := {
 mixed := by kernel_rfl
 f5 := ⟨Tryz.f160.name, by decide, Tryz.func160.trans (congrArg some (by kernel_rfl))⟩
 f7 := ⟨Tryz.f238.name, by decide, Tryz.func238.trans (congrArg some (by kernel_rfl))⟩
 f8 := Tryz.func224.trans (congrArg some (by kernel_rfl))
 f10 := ⟨Tryz.f295.name, by decide, Tryz.func295.trans (congrArg some (by kernel_rfl))⟩
 f11 := ⟨Tryz.f296.name, by decide, Tryz.func296.trans (congrArg some (by kernel_rfl))⟩
 f12 := ⟨Tryz.f297.name, by decide, Tryz.func297.trans (congrArg some (by kernel_rfl))⟩
 f13 := ⟨Tryz.f298.name, by decide, Tryz.func298.trans (congrArg some (by kernel_rfl))⟩
 f14 := ⟨Tryz.f299.name, by decide, Tryz.func299.trans (congrArg some (by kernel_rfl))⟩
 f15 := ⟨Tryz.f300.name, by decide, Tryz.func300.trans (congrArg some (by kernel_rfl))⟩
 f16 := ⟨Tryz.f301.name, by decide, Tryz.func301.trans (congrArg some (by kernel_rfl))⟩
 f17 := ⟨Tryz.f302.name, by decide, Tryz.func302.trans (congrArg some (by kernel_rfl))⟩
 f18 := ⟨Tryz.f303.name, by decide, Tryz.func303.trans (congrArg some (by kernel_rfl))⟩
 f19 := Tryz.func289.trans (congrArg some (by kernel_rfl))
 f20 := Tryz.func290.trans (congrArg some (by kernel_rfl))
 f30 := ⟨Tryz.f354.name, by decide, Tryz.func354.trans (congrArg some (by kernel_rfl))⟩
 f31 := Tryz.func340.trans (congrArg some (by kernel_rfl))
 f32 := Tryz.func341.trans (congrArg some (by kernel_rfl))
 f33 := ⟨Tryz.f355.name, by decide, Tryz.func355.trans (congrArg some (by kernel_rfl))⟩
 f34 := ⟨Tryz.f356.name, by decide, Tryz.func356.trans (congrArg some (by kernel_rfl))⟩
 f35 := ⟨Tryz.f274.name, by decide, Tryz.func274.trans (congrArg some (by kernel_rfl))⟩
 f40 := ⟨Tryz.f383.name, by decide, Tryz.func383.trans (congrArg some (by kernel_rfl))⟩
 t0 := Tryz.underlying0
 a0 := Tryz.isAgg0
 z0 := Tryz.sizeOf0
 v0 := Tryz.zeroValue0
 t3 := Tryz.underlying3
 a3 := Tryz.isAgg3
 z3 := Tryz.sizeOf3
 v3 := Tryz.zeroValue3
 t4 := Tryz.underlying4
 a4 := Tryz.isAgg4
 z4 := Tryz.sizeOf4
 v4 := Tryz.zeroValue4
 t5 := Tryz.underlying5
 a5 := Tryz.isAgg5
 z5 := Tryz.sizeOf5
 v5 := Tryz.zeroValue5
 t9 := Tryz.underlying9
 a9 := Tryz.isAgg9
 z9 := Tryz.sizeOf9
 v9 := Tryz.zeroValue9
 t22 := Tryz.underlying32
 a22 := Tryz.isAgg32
 z22 := Tryz.sizeOf32
 v22 := Tryz.zeroValue32
 t23 := Tryz.underlying32
 a23 := Tryz.isAgg32
 z23 := Tryz.sizeOf32
 v23 := Tryz.zeroValue32
 t25 := Tryz.underlying2
 a25 := Tryz.isAgg2
 z25 := Tryz.sizeOf2
 v25 := Tryz.zeroValue2
 t32 := Tryz.underlying243
 a32 := Tryz.isAgg243
 z32 := Tryz.sizeOf243
 v32 := Tryz.zeroValue243
 t35 := Tryz.underlying284
 a35 := Tryz.isAgg284
 z35 := Tryz.sizeOf284
 v35 := Tryz.zeroValue284
 t36 := Tryz.underlying285
 a36 := Tryz.isAgg285
 z36 := Tryz.sizeOf285
 v36 := Tryz.zeroValue285
 t41 := Tryz.underlying289
 a41 := Tryz.isAgg289
 z41 := Tryz.sizeOf289
 v41 := Tryz.zeroValue289
 t44 := Tryz.underlying292
 a44 := Tryz.isAgg292
 z44 := Tryz.sizeOf292
 v44 := Tryz.zeroValue292
 t46 := Tryz.underlying137
 a46 := Tryz.isAgg137
 z46 := Tryz.sizeOf137
 v46 := Tryz.zeroValue137
 t53 := Tryz.underlying327
 a53 := Tryz.isAgg327
 z53 := Tryz.sizeOf327
 v53 := Tryz.zeroValue327
 t57 := Tryz.underlying331
 a57 := Tryz.isAgg331
 z57 := Tryz.sizeOf331
 v57 := Tryz.zeroValue331
 t63 := Tryz.underlying352
 a63 := Tryz.isAgg352
 z63 := Tryz.sizeOf352
 v63 := Tryz.zeroValue352
 t64 := Tryz.underlying353
 a64 := Tryz.isAgg353
 z64 := Tryz.sizeOf353
 v64 := Tryz.zeroValue353 }
open Go.RowKit Go.Lib Go.Sort in
theorem Tryz.slices_Sort_int (blk off cap : Nat) (zs : List Int) (w : World) (hH : Holds (Value.int .i64) w blk off zs.toArray) (hblk : blk < w.heap.size) (hsz : zs.length < 4611686018427387904) :
  Calls Tryz.prog 160 #[.slice (some ⟨blk, off, none⟩) zs.length cap] w fun e w' =>
   e = .returned (.tuple #[]) ∧ ∃ n os, w' = grow (putRow (Value.int .i64) (Sort.ahead w n) blk off (zs.mergeSort fun x y => decide (x ≤ y)).toArray) os := AnyM.slices_Sort_int Tryz.laysSortI blk off cap zs w hH hblk hsz
open Go.RowKit Go.Lib Go.Sort in
theorem Tryz.slices_Sort_int_none (p : Option Addr) (cap : Nat) (w : World) :
  Calls Tryz.prog 160 #[.slice p 0 cap] w fun e w' => e = .returned (.tuple #[]) ∧ w' = w := AnyM.slices_Sort_int_none Tryz.laysSortI p cap w
end Go.Proofs
namespace Go.Proofs.YtnhomkmfbngmgaaGreatDoor
open Go.RowKit Go.Sort Go.Lib
def sortI (l : List Int) : List Int := l.mergeSort fun x y => decide (x ≤ y)
theorem sortI_nil : sortI [] = [] := by simp [sortI]
theorem sortI_len (l : List Int) : (sortI l).length = l.length := List.length_mergeSort _
theorem sortI_mem {l : List Int} {x : Int} : x ∈ sortI l ↔ x ∈ l := List.mem_mergeSort
theorem iv_map (l : List Int) : l.flatMap iv = l.map (Value.int .i64) := by
 induction l with
 | nil => rfl
 | cons x l ih => rw [List.flatMap_cons, ih]; rfl
theorem compact_mem {l : List Int} {x : Int} : x ∈ Lib.compact l ↔ x ∈ l := by
 unfold Lib.compact Lib.compactUpTo;rw [List.mem_map]
 constructor
 ·rintro ⟨k, hk, rfl⟩
  have hk' := List.mem_range.1 (List.mem_filter.1 hk).1;rw [getElem!_pos _ k (by simpa using hk')]
  simp
 ·intro hx
  obtain ⟨k, hk, rfl⟩ := List.mem_iff_getElem.1 hx;have key : ∀ k, (hk : k < l.length) → ∃ a, a ∈ (List.range l.length).filter (Lib.keeps l.toArray) ∧ l.toArray[a]! = l[k] := by
   intro k
   induction k with
   | zero => exact fun hk => ⟨0, List.mem_filter.2 ⟨List.mem_range.2 hk, by simp [Lib.keeps]⟩, by rw [getElem!_pos _ 0 (by simpa using hk)]; simp⟩
   | succ k ih =>
    intro hk
    by_cases h : l.toArray[k + 1]! = l.toArray[k]!
    ·obtain ⟨a, ha, e⟩ := ih (by omega)
     refine ⟨a, ha, ?_⟩;rw [e];rw [getElem!_pos _ (k + 1) (by simpa using hk), getElem!_pos _ k (by simp; omega)] at h
     simpa using h.symm
    ·exact ⟨k + 1, List.mem_filter.2 ⟨List.mem_range.2 hk, Lib.keeps_pos (by simpa using h)⟩, by rw [getElem!_pos _ (k + 1) (by simpa using hk)]; simp⟩
  exact key k hk
theorem compact_len (l : List Int) : (Lib.compact l).length ≤ l.length := by
 unfold Lib.compact Lib.compactUpTo;rw [List.length_map];exact Nat.le_trans (List.length_filter_le _ _) (by simp)
section
variable {w : World} {base g n c q : Nat} {e : TypeId} {l d : List Int} {os : Array Obj}
theorem put_block (w : World) (g q : Nat) (d : List Int) (os : Array Obj) (hg : g < w.heap.size) :
  (grow (putRow (Value.int .i64) (Sort.ahead w q) g 0 d.toArray) os).heap[g]? = (w.heap[g]?).map (onCells (Go.Sort.putCells (Value.int .i64) 0 d.toArray)) := by
 rw [heap_grow_old _ _ (by simpa [putRow, mapBlock, Sort.ahead] using hg)]
 simp [putRow, mapBlock, Sort.ahead, Array.getElem?_modify]
theorem put_grown (w : World) (g q : Nat) (d : List Int) (os : Array Obj) : w.grownBy (grow (putRow (Value.int .i64) (Sort.ahead w q) g 0 d.toArray) os) (some g) := by
 refine ⟨rfl, rfl, rfl, by simp [putRow, mapBlock, Sort.ahead], fun k hk hne => ?_⟩;rw [heap_grow_old _ _ (by simpa [putRow, mapBlock, Sort.ahead] using hk)];have hne' : g ≠ k := fun h => hne (by rw [h])
 simp [putRow, mapBlock, Sort.ahead, Array.getElem?_modify, hne']
theorem Own.put (h : Own 1 iv w base e (some ⟨g, 0, none⟩) n c l) (hd : d.length = n) {m : Nat} (hm : m ≤ n) :
  Own 1 iv (grow (putRow (Value.int .i64) (Sort.ahead w q) g 0 d.toArray) os) base e (some ⟨g, 0, none⟩) m c (d.take m) := by
 rcases h.2.2 with ⟨hv, -⟩ | ⟨g', cap, cur, hv, hb, hg, hnc, hcm, hcs, htake⟩
 ·cases hv
 ·cases hv
  have hlt : g < w.heap.size := (Array.getElem?_eq_some_iff.1 hg).1;have hl : (d.take m).length = m := by rw [List.length_take]; omega
  refine ⟨hl, by rw [flat_length flat_iv, hl], .inr ⟨g, c, Go.Sort.putCells (Value.int .i64) 0 d.toArray cur, rfl, hb, ?_, by omega, hcm, by simp [Go.Sort.putCells, hcs], ?_⟩⟩
  ·rw [put_block _ _ _ _ _ hlt, hg]
   rfl
  ·rw [iv_map]
   apply List.ext_getElem?
   intro k
   by_cases hk : k < m
   ·have hkc : k < cur.size := by omega
    have hkd : k < d.length := by omega
    rw [List.getElem?_take, if_pos (by omega), List.getElem?_map, List.getElem?_take, if_pos hk, Array.getElem?_toList, List.getElem?_eq_getElem hkd];simp only [Go.Sort.putCells, Array.getElem?_mapIdx, Array.getElem?_eq_getElem hkc, Option.map_some];rw [if_pos ⟨Nat.zero_le _, by simp; omega⟩, Nat.sub_zero, getElem!_pos _ k (by simpa using hkd)]
    simp
   ·rw [List.getElem?_eq_none (by simp; omega), List.getElem?_eq_none (by simp; omega)]
theorem Own.holds (h : Own 1 iv w base e (some ⟨g, 0, none⟩) n c l) : Holds (Value.int .i64) w g 0 l.toArray := by
 intro j hj;have hj' : j < l.length := by simpa using hj
 have hs := h.sl flat_iv;have hn := h.len;obtain ⟨b', off', e', -, -, -, hc⟩ := hs.at_ (by omega)
 cases e'
 have := hc j l[j] (List.getElem?_eq_getElem hj') 0 (.int .i64 l[j]) rfl;rw [getElem!_pos _ j hj]
 simpa using this
end
section
variable {w : World} {base n c : Nat} {A : Option Addr} {l : List Int}
theorem sortI_calls (h : Own 1 iv w base 2 A n c l) (hn : n ≤ 1000000000) :
  Calls Tryz.prog 160 #[.slice A n c] w fun e w' => e = .returned (.tuple #[]) ∧ Own 1 iv w' base 2 A n c (sortI l) ∧ w.grownBy w' (Value.slice A n c).ownBlock := by
 rcases h.2.2 with ⟨hv, hn0⟩ | ⟨g, cap, cur, hv, hb, hg, hnc, hcm, hcs, htake⟩
 ·cases hv
  have hl := List.eq_nil_of_length_eq_zero h.len;subst hl;refine (Tryz.slices_Sort_int_none none 0 w).mono ?_;rintro e w' ⟨rfl, rfl⟩;rw [sortI_nil];exact ⟨rfl, h, ⟨rfl, rfl, rfl, zR, fun _ _ _ => rfl⟩⟩
 ·cases hv
  have hlt : g < w.heap.size := (Array.getElem?_eq_some_iff.1 hg).1;have hq := Tryz.slices_Sort_int g 0 c l w h.holds hlt (by have := h.len; omega);rw [h.len] at hq;refine hq.mono ?_;rintro e w' ⟨rfl, q, os, rfl⟩;refine ⟨rfl, ?_, put_grown _ _ _ _ _⟩;have := h.put (d := sortI l) (q := q) (os := os) ((sortI_len l).trans h.len) (Nat.le_refl n)
  rwa [List.take_of_length_le (by rw [sortI_len, h.len]; exact zR)] at this
theorem compactI_calls (h : Own 1 iv w base 2 A n c l) (hn : n ≤ 1000000000) :
  Calls Tryz.prog 161 #[.slice A n c] w fun e w' => e = .returned (.slice A (Lib.compact l).length c) ∧ Own 1 iv w' base 2 A (Lib.compact l).length c (Lib.compact l) ∧ w.grownBy w' (Value.slice A n c).ownBlock := by
 rcases h.2.2 with ⟨hv, hn0⟩ | ⟨g, cap, cur, hv, hb, hg, hnc, hcm, hcs, htake⟩
 ·cases hv
  have hl := List.eq_nil_of_length_eq_zero h.len;subst hl;refine (Tryz.slices_Compact_int_empty none 0 w).mono ?_;rintro e w' ⟨rfl, rfl⟩;exact ⟨rfl, h, ⟨rfl, rfl, rfl, zR, fun _ _ _ => rfl⟩⟩
 ·cases hv
  have hlt : g < w.heap.size := (Array.getElem?_eq_some_iff.1 hg).1;have hlen := compact_len l;have hq := Tryz.slices_Compact_int g 0 c l w h.holds (by have := h.len; omega) (by have := h.len; omega);rw [h.len] at hq hlen;refine hq.mono ?_;rintro e w' ⟨rfl, q, rfl⟩;have hd : (Lib.compact l ++ List.replicate (n - (Lib.compact l).length) 0).length = n := by simp; omega
  have h1 := h.put (d := Lib.compact l ++ List.replicate (n - (Lib.compact l).length) 0) (q := q) (os := #[]) hd hlen;have h2 := put_grown w g q (Lib.compact l ++ List.replicate (n - (Lib.compact l).length) 0) #[];rw [grow_empty] at h1 h2;rw [List.take_left'  rfl] at h1;exact ⟨rfl, h1, h2⟩
end
end Go.Proofs.YtnhomkmfbngmgaaGreatDoor
namespace Go.Proofs.YtnhomkmfbngmgaaGreatDoor
open Go.ChangeShapes Go.WideShapes Go.ChangeAt Go.RowKit Go.Sort
def hitS (ls : List ByteArray) (lab : ByteArray) (S : List Int) (e : Ed) : Bool := S.any (fun x => decide (x = e.1)) && (match ls[e.2.1.toNat]? with | some r => decide (r = lab) | none => false)
def folS (es : List Ed) (ls : List ByteArray) (lab : ByteArray) (S : List Int) : List Int := (es.filter (hitS ls lab S)).map (·.2.2)
def folV (es : List Ed) (ls : List ByteArray) (lab : ByteArray) (S : List Int) : List Int := Lib.compact (sortI (folS es ls lab S))
theorem folV_mem {es : List Ed} {ls : List ByteArray} {lab : ByteArray} {S : List Int} {v : Int} : v ∈ folV es ls lab S ↔ ∃ e ∈ es, e.1 ∈ S ∧ ls[e.2.1.toNat]? = some lab ∧ e.2.2 = v := by
 unfold folV;rw [compact_mem, sortI_mem];unfold folS;rw [List.mem_map]
 constructor
 ·rintro ⟨e, he, rfl⟩
  obtain ⟨h1, h2⟩ := List.mem_filter.1 he;unfold hitS at h2;rw [Bool.and_eq_true, List.any_eq_true] at h2;obtain ⟨⟨x, hx, hxe⟩, h3⟩ := h2;refine ⟨e, h1, by rw [← of_decide_eq_true hxe]; exact hx, ?_, rfl⟩
  revert h3
  cases ls[e.2.1.toNat]? with
  | none => intro h; cases h
  | some r => intro h; rw [of_decide_eq_true h]
 ·rintro ⟨e, h1, h2, h3, rfl⟩
  refine ⟨e, List.mem_filter.2 ⟨h1, ?_⟩, rfl⟩;unfold hitS;rw [Bool.and_eq_true, List.any_eq_true, h3];exact ⟨⟨e.1, h2, decide_eq_true rfl⟩, decide_eq_true rfl⟩
end Go.Proofs.YtnhomkmfbngmgaaGreatDoor
namespace Go.Proofs.YtnhomkmfbngmgaaGreatDoor
def addN (R : List Int) (v : Int) : List Int := if v ∈ R then R else R ++ [v]
def addL (R L : List Int) : List Int := L.foldl addN R
theorem addN_mem {R : List Int} {v x : Int} : x ∈ addN R v ↔ x ∈ R ∨ x = v := by
 unfold addN
 split
 ·constructor
  ·exact .inl
  ·rintro (h | rfl)
   ·exact h
   ·assumption
 ·simp
theorem addL_mem : ∀ {L R : List Int} {x : Int}, x ∈ addL R L ↔ x ∈ R ∨ x ∈ L
 | [], R, x => by simp [addL]
 | v :: L, R, x => by
  show x ∈ addL (addN R v) L ↔ _
  rw [addL_mem, addN_mem, List.mem_cons]
  constructor
  ·rintro ((h | h) | h)
   ·exact .inl h
   ·exact .inr (.inl h)
   ·exact .inr (.inr h)
  ·rintro (h | h | h)
   ·exact .inl (.inl h)
   ·exact .inl (.inr h)
   ·exact .inr h
def Beg (N : Int) (S R : List Int) : Prop := ∃ T, R = S ++ T ∧ T.Nodup ∧ ∀ v ∈ T, v ∉ S ∧ 0 ≤ v ∧ v < N
theorem Beg.refl (N : Int) (S : List Int) : Beg N S S := ⟨[], by simp, List.nodup_nil, fun _ h => by cases h⟩
theorem Beg.add {N : Int} {S R : List Int} (h : Beg N S R) {v : Int} (h0 : 0 ≤ v) (h1 : v < N) : Beg N S (addN R v) := by
 obtain ⟨T, rfl, hn, hv⟩ := h;unfold addN
 split
 ·exact ⟨T, rfl, hn, hv⟩
 ·rename_i hnot
  rw [List.mem_append] at hnot;refine ⟨T ++ [v], by simp, ?_, ?_⟩
  ·rw [List.nodup_append]
   exact ⟨hn, by simp, fun a ha b hb => by rw [List.mem_singleton.1 hb]; rintro rfl; exact hnot (.inr ha)⟩
  ·intro x hx
   rcases List.mem_append.1 hx with hx | hx
   ·exact hv x hx
   ·rw [List.mem_singleton.1 hx]
    exact ⟨fun h => hnot (.inl h), h0, h1⟩
theorem Beg.addL {N : Int} {S : List Int} : ∀ {L R : List Int}, Beg N S R → (∀ v ∈ L, 0 ≤ v ∧ v < N) → Beg N S (addL R L)
 | [], R, h, _ => h
 | v :: L, R, h, hv => Beg.addL (L := L) (h.add (hv v (List.mem_cons_self ..)).1 (hv v (List.mem_cons_self ..)).2) fun x hx => hv x (List.mem_cons_of_mem _ hx)
theorem nodup_few_aux : ∀ (n : Nat) (l : List Nat), l.Nodup → (∀ x ∈ l, x < n) → l.length ≤ n
 | 0, l, _, h => by
  cases l with
  | nil => simp
  | cons a l => exact absurd (h a (by simp)) (by omega)
 | n + 1, l, hd, h => by
  have h1 := nodup_few_aux n (l.filter fun x => decide (x ≠ n)) (hd.filter _) (fun x hx => by
   obtain ⟨h2, h3⟩ := List.mem_filter.1 hx;have := h x h2;have h4 : x ≠ n := by simpa using h3
   omega)
  have h2 : l.length ≤ (l.filter fun x => decide (x ≠ n)).length + 1 := by
   have h3 : l.length = l.countP (fun x => decide (x ≠ n)) + l.countP (fun x => !(decide (x ≠ n))) := by
    rw [List.length_eq_countP_add_countP (fun x => decide (x ≠ n))]
    congr 1
    apply List.countP_congr
    intro x _
    simp
   have h4 : l.countP (fun x => !(decide (x ≠ n))) ≤ 1 := by
    have h5 : l.countP (fun x => !(decide (x ≠ n))) = l.count n := by
     unfold List.count
     apply List.countP_congr
     intro x _
     simp
    rw [h5];exact List.nodup_iff_count.1 hd n
   rw [← List.countP_eq_length_filter];omega
  omega
theorem nodup_few {N : Nat} : ∀ {T : List Int}, T.Nodup → (∀ v ∈ T, 0 ≤ v ∧ v < (N : Int)) → T.length ≤ N := by
 intro T hn hv;have h1 : (T.map Int.toNat).Nodup := by
  rw [List.Nodup, List.pairwise_map];refine List.Pairwise.imp_of_mem (fun {a b} ha hb hne => ?_) hn;have := hv a ha;have := hv b hb;omega
 have := nodup_few_aux N (T.map Int.toNat) h1 fun x hx => by
  obtain ⟨v, hvv, rfl⟩ := List.mem_map.1 hx;have := hv v hvv;omega
 simpa using this
theorem Beg.len {N : Nat} {S R : List Int} (h : Beg (N : Int) S R) : R.length ≤ S.length + N := by
 obtain ⟨T, rfl, hn, hv⟩ := h;have := nodup_few hn fun v hx => (hv v hx).2
 rw [List.length_append];omega
structure TauI (N : Int) (es : List Ed) (ls : List ByteArray) (S R : List Int) (k : Nat) : Prop where
 beg : Beg N S R
 sound : ∀ v ∈ R, TauC es ls (· ∈ S) v
 closed : ∀ j, j < k → ∀ x, R[j]? = some x → ∀ v ∈ folV es ls tauB [x], v ∈ R
theorem TauI.start (N : Int) (es : List Ed) (ls : List ByteArray) (S : List Int) : TauI N es ls S S 0 :=
 ⟨Beg.refl _ _, fun v hv => .base hv, fun j hj => by omega⟩
theorem addL_get {R L : List Int} {j : Nat} (h : j < R.length) : (addL R L)[j]? = R[j]? := by
 induction L generalizing R with
 | nil => rfl
 | cons v L ih =>
  show (addL (addN R v) L)[j]? = _
  have h2 : j < (addN R v).length := by
   unfold addN
   split
   ·exact h
   ·rw [List.length_append]; omega
  rw [ih h2];unfold addN
  split
  ·rfl
  ·rw [List.getElem?_append_left h]
theorem TauI.next {N : Int} {es : List Ed} {ls : List ByteArray} {S R : List Int} {k : Nat} {x : Int} (h : TauI N es ls S R k) (hx : R[k]? = some x) (hN : ∀ e ∈ es, 0 ≤ e.2.2 ∧ e.2.2 < N) : TauI N es ls S (addL R (folV es ls tauB [x])) (k + 1) := by
 have hk : k < R.length := (List.getElem?_eq_some_iff.1 hx).1;refine ⟨h.beg.addL fun v hv => ?_, fun v hv => ?_, fun j hj y hy v hv => ?_⟩
 ·obtain ⟨e, he, -, -, rfl⟩ := folV_mem.1 hv
  exact hN e he
 ·rcases addL_mem.1 hv with hv | hv
  ·exact h.sound v hv
  ·obtain ⟨e, he, h1, h2, rfl⟩ := folV_mem.1 hv
   refine .step ?_ he h2;rw [List.mem_singleton.1 h1];exact h.sound x (List.mem_of_getElem? hx)
 ·rw [addL_get (by omega)] at hy
  rcases Nat.lt_or_ge j k with h1 | h1
  ·exact addL_mem.2 (.inl (h.closed j h1 y hy v hv))
  ·have : j = k := by omega
   subst this;rw [hx] at hy
   cases hy
   exact addL_mem.2 (.inr hv)
theorem TauI.done {N : Int} {es : List Ed} {ls : List ByteArray} {S R : List Int} {k : Nat} (h : TauI N es ls S R k) (hk : R.length ≤ k) {v : Int} : v ∈ R ↔ TauC es ls (· ∈ S) v := by
 refine ⟨h.sound v, fun hv => ?_⟩
 induction hv with
 | base hv =>
  obtain ⟨T, rfl, -⟩ := h.beg;exact List.mem_append.2 (.inl hv)
 | step _ he hl ih =>
  obtain ⟨j, hj, e⟩ := List.mem_iff_getElem.1 ih;exact h.closed j (by omega) _ (List.getElem?_eq_some_iff.2 ⟨hj, e⟩) _ (folV_mem.2 ⟨_, he, List.mem_singleton.2 rfl, hl, rfl⟩)
open Go.ChangeAt Go.ChangeShapes Go.RowKit Go.WideShapes
structure OwnC {α : Type} (size : Nat) (f : α → List Value) (t : TypeId) (w1 : World) (BB : Nat) (w : World) (A : Option Addr) (m c : Nat) (l : List α) : Prop where
 own : Own size f w BB t A m c l
 at_ : ∀ g, (Value.slice A m c).ownBlock = some g → g = BB ∨ w1.heap.size ≤ g
 only : Only BB (BB + 1) w1 w
theorem OwnC.below {α : Type} {size : Nat} {f : α → List Value} {t : TypeId} {w1 w w' : World} {BB m c : Nat} {A : Option Addr} {l : List α} (h : OwnC size f t w1 BB w A m c l) (hb : Below w.heap.size w w') : OwnC size f t w1 BB w' A m c l :=
 ⟨h.own.below hb zR, h.at_, ⟨hb.os.trans h.only.os, hb.tape.trans h.only.tape, hb.output.trans h.only.output, Nat.le_trans h.only.size hb.size, fun b hb' ho => (hb.block b (Nat.lt_of_lt_of_le hb' h.only.size)).trans (h.only.block b hb' ho)⟩⟩
theorem OwnC.app {α : Type} {size : Nat} {f : α → List Value} {t : TypeId} {w1 w w' : World} {BB m c m' c' : Nat} {A A' : Option Addr} {l l' : List α} (h : OwnC size f t w1 BB w A m c l) (ho : Own size f w' BB t A' m' c' l') (hg : w.grownBy w' (Value.slice A m c).ownBlock)
  (ha : (Value.slice A' m' c').ownBlock = (Value.slice A m c).ownBlock ∨ (Value.slice A' m' c').ownBlock = some w.heap.size) : OwnC size f t w1 BB w' A' m' c' l' := by
 refine ⟨ho, fun g hg' => ?_, ⟨hg.os.trans h.only.os, hg.tape.trans h.only.tape, hg.output.trans h.only.output, Nat.le_trans h.only.size hg.size, fun b hb' hb2 => (hg.block b (Nat.lt_of_lt_of_le hb' h.only.size) fun e => ?_).trans (h.only.block b hb' hb2)⟩⟩
 ·rcases ha with ha | ha
  ·exact h.at_ g (by rw [← ha]; exact hg')
  ·rw [ha] at hg'
   injection hg' with e;have := h.only.size;omega
 ·have := h.at_ b e.symm
  omega
end Go.Proofs.YtnhomkmfbngmgaaGreatDoor
namespace Go.Proofs.YtnhomkmfbngmgaaGreatDoor
open Go.Sort
theorem sortI_asc (l : List Int) : (sortI l).Pairwise (· ≤ ·) := by
 have := List.pairwise_mergeSort (le := fun x y : Int => decide (x ≤ y)) (fun a b c h1 h2 => by simp only [decide_eq_true_eq] at *; omega) (fun a b => by simp only [Bool.or_eq_true, decide_eq_true_eq]; omega) l;exact this.imp fun h => by simpa using h
theorem compact_asc {l : List Int} (h : l.Pairwise (· ≤ ·)) : (Lib.compact l).Pairwise (· < ·) := by
 unfold Lib.compact Lib.compactUpTo;rw [List.pairwise_map];refine List.Pairwise.imp_of_mem (fun {p q} hp hq hpq => ?_) (List.Pairwise.filter _ (List.pairwise_lt_range (n := l.length)));obtain ⟨hp1, -⟩ := List.mem_filter.1 hp;obtain ⟨hq1, hq2⟩ := List.mem_filter.1 hq;have hp1 := List.mem_range.1 hp1;have hq1 := List.mem_range.1 hq1;unfold Lib.keeps at hq2;rw [decide_eq_true_eq] at hq2;have hne : l.toArray[q]! ≠ l.toArray[q - 1]! := hq2.resolve_left (by omega);rw [getElem!_pos _ q (by simpa using hq1), getElem!_pos _ (q - 1) (by simp; omega)] at hne;rw [getElem!_pos _ p (by simpa using hp1), getElem!_pos _ q (by simpa using hq1)];simp only [List.getElem_toArray] at hne ⊢;have h1 := List.pairwise_iff_getElem.1 h (q - 1) q (by omega) hq1 (by omega)
 by_cases e : p = q - 1
 ·subst e; omega
 ·have h3 := List.pairwise_iff_getElem.1 h p (q - 1) hp1 (by omega) (by omega)
  omega
theorem set_asc (l : List Int) : (Lib.compact (sortI l)).Pairwise (· < ·) := compact_asc (sortI_asc l)
theorem set_mem {l : List Int} {x : Int} : x ∈ Lib.compact (sortI l) ↔ x ∈ l := by rw [compact_mem, sortI_mem]
end Go.Proofs.YtnhomkmfbngmgaaGreatDoor
namespace Go.Proofs.YtnhomkmfbngmgaaGreatDoor
open Go.ChangeShapes Go.WideShapes Go.ChangeAt Go.RowKit Go.Lib
def cellsD : DataW Unit → List Value
 | .agg l => l.flatMap fun x => match x with
  | .lit (.int k z) => [.int k z]
  | _ => []
 | _ => []
noncomputable def laidWorld (os : Os) : World :=
 let w0 := World.doorLaid Tryz.prog 400 os
 { w0 with heap := w0.heap.modify 2 fun
   | .cells _ t f => .cells (cellsD Rows.laid_unicode_utf8_first).toArray t f
   | o => o }
theorem laid_met (os : Os) (args : Array Value) : laidMet Tryz.prog Rows.fnLtsRow.laid ((laidWorld os).forCall (fun _ _ => 0) ⟨#[], args, []⟩).memory :=
 laidMet_of_run' 8 (by kernel_rfl) (by kernel_rfl)
end Go.Proofs.YtnhomkmfbngmgaaGreatDoor
namespace Go.Proofs.YtnhomkmfbngmgaaGreatDoor
open Go.ChangeShapes Go.WideShapes Go.ChangeAt Go.RowKit
open Go.Maps (Keyed)
def pairV (q : Int × Int) : Value := .agg #[.int .i64 q.1, .int .i64 q.2]
def fitP (q : Int × Int) : Prop := (Lit.int .i64 q.1).wf = true ∧ (Lit.int .i64 q.2).wf = true
theorem laidP : laidOutB Tryz.prog = true := by kernel_rfl
theorem keyedP : Keyed Tryz.prog 177 := Keyed.of_law (Go.deep_law_laid laidP (m := 2) (by omega) (of_decide_eq_true (by kernel_rfl)) (by kernel_rfl) (by rw [Tryz.underlying177]))
theorem pairV_inj {a b : Int × Int} (h : pairV a = pairV b) : a = b := by
 unfold pairV at h;injection h with h;injection h with h;injection h with h1 h2;injection h2 with h2 _;injection h1 with _ h1;injection h2 with _ h2;exact Prod.ext h1 h2
open Go.Maps (Keyed)
abbrev PQ2 := Int × Int
def KL (q : PQ2) (l : Lit) : Prop := keyOf Tryz.prog 177 (pairV q) = some l
theorem KL.inj {a b : PQ2} {l : Lit} (h : KL a l) (g : KL b l) : a = b := pairV_inj (keyedP.inj h g)
noncomputable abbrev RB : Value → Option (DataW Unit × List MemPlace) := plainElem Tryz.prog 4
structure DatS (D : DataW Unit) (S : List PQ2) : Prop where
 has : ∀ l, Maps.has D l = true ↔ ∃ q ∈ S, KL q l
 val : ∀ l, Maps.has D l = true → ∀ z, D.atKey l z = .lit (.bool true)
structure PSet (w : World) (b : Nat) (S : List PQ2) : Prop where
 nd : S.Nodup
 fit : ∀ q, q ∈ S → fitP q
 ex : ∃ (D : DataW Unit), w.ownsMap Tryz.prog 177 RB b S.length D ∧ Maps.size D = S.length ∧ DatS D S
section
variable {w w' : World} {b : Nat} {S : List PQ2}
theorem PSet.made (w : World) : PSet (w.alloc (.map #[] 0)) w.heap.size [] :=
 ⟨List.nodup_nil, (fun q h => by cases h), .map [], World.ownsMap_made _ _ _ _, rfl, ⟨fun l => ⟨(fun h => by cases h), (fun ⟨q, h, _⟩ => by cases h)⟩, fun l h => by cases h⟩⟩
theorem PSet.lt (h : PSet w b S) : b < w.heap.size := by obtain ⟨-, -, D, h1, -⟩ := h; exact h1.lt
theorem PSet.keep (h : PSet w b S) (hb : w'.heap[b]? = w.heap[b]?) : PSet w' b S := by
 obtain ⟨h1, h2, D, ⟨es, clock, h3, r⟩, h4⟩ := h;exact ⟨h1, h2, D, ⟨es, clock, hb.trans h3, r⟩, h4⟩
theorem PSet.below (h : PSet w b S) (hb : Below w.heap.size w w') : PSet w' b S := h.keep (hb.block b h.lt)
theorem PSet.map (h : PSet w b S) : ∃ es clock, w.heap[b]? = some (.map es clock) := by obtain ⟨-, -, D, ⟨es, clock, h1, r⟩, -⟩ := h; exact ⟨es, clock, h1⟩
end
structure RSet (w : World) (b r : Nat) (S L : List PQ2) (cnt : Nat) : Prop where
 set : PSet w b S
 sub : ∀ q, q ∈ L → q ∈ S
 nd : L.Nodup
 ex : ∃ (D : DataW Unit) (left : Lit → Bool), w.ranges Tryz.prog 177 RB b r S.length D left cnt ∧ DatS D S ∧ ∀ l, left l = true ↔ ∃ q ∈ L, KL q l
section
variable {w w' : World} {b r : Nat} {S L : List PQ2} {cnt : Nat}
theorem RSet.kept (h : RSet w b r S L cnt) {row : Option Nat} (hg : w.grownBy w' row) (hb : some b ≠ row) (hr : some r ≠ row) : RSet w' b r S L cnt := by
 obtain ⟨h1, h2, h3, D, left, h4, h5⟩ := h;exact ⟨h1.keep (hg.block b h1.lt hb), h2, h3, D, left, h4.kept hg hb hr, h5⟩
theorem RSet.lt (h : RSet w b r S L cnt) : r < w.heap.size := by obtain ⟨-, -, -, D, left, h4, -⟩ := h; exact h4.lt
theorem RSet.ne (h : RSet w b r S L cnt) : r ≠ b := by obtain ⟨-, -, -, D, left, h4, -⟩ := h; exact h4.ne
theorem RSet.below (h : RSet w b r S L cnt) (hb : Below w.heap.size w w') : RSet w' b r S L cnt :=
 h.kept (row := none) ⟨hb.os, hb.tape, hb.output, hb.size, fun i hi _ => hb.block i hi⟩ (by simp) (by simp)
end
section
variable {w : World} {ops : Array Oper} {rest : List Oper} {o : Oper} {a : Act} {Q : Exit → Act → World → Prop} {b r : Nat} {S L : List PQ2} {cnt : Nat}
end
open Go.Sort
structure SimD (w : World) (K : Nat) (s0 s1 : Int) (A2 : Option Addr) (n2 k2 : Nat) (A3 : Option Addr) (n3 k3 : Nat) (r0 r1 : Int) (B2 : Option Addr) (m2 j2 : Nat) (B3 : Option Addr) (m3 j3 : Nat) (lt : List ByteArray) (et : List Ed) (lp : List ByteArray) (ep : List Ed) : Prop where
 t2 : SlS w 0 K A2 n2 lt
 t3 : SlE w 0 K A3 n3 et
 u2 : SlS w 0 K B2 m2 lp
 u3 : SlE w 0 K B3 m3 ep
 hes : n3 ≤ 1048576
 hfs : m3 ≤ 1048576
 ht : ltsV (s0, s1, lt, et) = true
 hp : ltsV (r0, r1, lp, ep) = true
theorem SimD.below {w w' : World} {K B : Nat} {s0 s1 : Int} {A2 : Option Addr} {n2 k2 : Nat} {A3 : Option Addr} {n3 k3 : Nat} {r0 r1 : Int} {B2 : Option Addr} {m2 j2 : Nat} {B3 : Option Addr} {m3 j3 : Nat} {lt : List ByteArray} {et : List Ed} {lp : List ByteArray} {ep : List Ed}
  (h : SimD w K s0 s1 A2 n2 k2 A3 n3 k3 r0 r1 B2 m2 j2 B3 m3 j3 lt et lp ep) (hb : Below B w w') (hK : K ≤ B) : SimD w' K s0 s1 A2 n2 k2 A3 n3 k3 r0 r1 B2 m2 j2 B3 m3 j3 lt et lp ep :=
 ⟨h.t2.below hb (.inl hK), h.t3.below hb (.inl hK), h.u2.below hb (.inl hK), h.u3.below hb (.inl hK), h.hes, h.hfs, h.ht, h.hp⟩
open Go.Lib
theorem compareLabels_calls (a b : ByteArray) (w : World) : Calls Tryz.prog 226 #[.string a, .string b] w fun e w' => e = .returned (.int .i64 (cmpB (toL a) (toL b))) ∧ w' = w := by
 have q := Tryz.strings_Compare a b
 by_cases h1 : a = b
 ·subst h1
  have hv : Hid (cmpB (toL a) (toL a) = 0) := by show _ = _; unfold cmpB; rw [if_pos rfl]
  have hself : (a.toList == a.toList) = true := beq_self_eq_true _;clear q;go_enter Tryz.func226, Tryz.ntmps226;go_wp2_with fail;go_ret;exact ⟨ret_i (by rw [hv.out]), rfl⟩
 ·have n1 := str_neq h1
  have n2 : ¬ a.toList = b.toList := fun e => by rw [e, beq_self_eq_true] at n1; cases n1
  have n3 : ¬ toL a = toL b := fun e => h1 (toL_inj e)
  by_cases h2 : a = tauB
  ·have hv : Hid (cmpB (toL a) (toL b) = -1) := by show _ = _; unfold cmpB; rw [if_neg n3, if_pos (by rw [h2, toL_tau])]
   have t1 : (a.toList == [116, 97, 117]) = true := by rw [h2, tau_list]; rfl
   clear q n3 h1 h2;go_enter Tryz.func226, Tryz.ntmps226;go_wp2_with fail;go_ret;exact ⟨ret_i (by rw [hv.out]), rfl⟩
  ·have t1 : (a.toList == [116, 97, 117]) = false := by have := str_neq h2; rwa [tau_list] at this
   have t2 : ¬ a.toList = [116, 97, 117] := fun e => by rw [e] at t1; cases t1
   have t3 : ¬ toL a = tauBL := fun e => h2 (toL_inj (e.trans toL_tau.symm))
   by_cases h3 : b = tauB
   ·have hv : Hid (cmpB (toL a) (toL b) = 1) := by show _ = _; unfold cmpB; rw [if_neg n3, if_neg t3, if_pos (by rw [h3, toL_tau])]
    have u1 : (b.toList == [116, 97, 117]) = true := by rw [h3, tau_list]; rfl
    clear q n3 t3 h1 h2 h3;go_enter Tryz.func226, Tryz.ntmps226;go_wp2_with fail;go_ret;exact ⟨ret_i (by rw [hv.out]), rfl⟩
   ·have u1 : (b.toList == [116, 97, 117]) = false := by have := str_neq h3; rwa [tau_list] at this
    have u2 : ¬ b.toList = [116, 97, 117] := fun e => by rw [e] at u1; cases u1
    have u3 : ¬ toL b = tauBL := fun e => h3 (toL_inj (e.trans toL_tau.symm))
    have hv : Hid (cmpB (toL a) (toL b) = Lib.compareBytes a.data.toList b.data.toList) := by show _ = _; unfold cmpB; rw [if_neg n3, if_neg t3, if_neg u3]; rfl
    generalize Lib.compareBytes a.data.toList b.data.toList = r at *;replace q := hide q;clear n3 t3 u3 h1 h2 h3;go_enter Tryz.func226, Tryz.ntmps226;go_wp2_with (first | (go_at_call 292; (with_reducible refine (q.out _).mono ?_); rintro e w5 ⟨rfl, rfl⟩));go_ret;exact ⟨ret_i (by rw [hv.out]), rfl⟩
theorem strv_map (l : List ByteArray) : l.flatMap strv = l.map Value.string := by
 induction l with
 | nil => rfl
 | cons x l ih => rw [List.flatMap_cons, ih]; rfl
section
variable {w : World} {base g n c q : Nat} {e : TypeId} {l : List ByteArray} {d : List (List UInt8)} {os : Array Obj}
theorem putS_block (w : World) (g q : Nat) (d : List (List UInt8)) (os : Array Obj) (hg : g < w.heap.size) :
  (grow (putRow encStr (Sort.ahead w q) g 0 d.toArray) os).heap[g]? = (w.heap[g]?).map (onCells (Go.Sort.putCells encStr 0 d.toArray)) := by
 rw [heap_grow_old _ _ (by simpa [putRow, mapBlock, Sort.ahead] using hg)]
 simp [putRow, mapBlock, Sort.ahead, Array.getElem?_modify]
theorem putS_grown (w : World) (g q : Nat) (d : List (List UInt8)) (os : Array Obj) : w.grownBy (grow (putRow encStr (Sort.ahead w q) g 0 d.toArray) os) (some g) := by
 refine ⟨rfl, rfl, rfl, by simp [putRow, mapBlock, Sort.ahead], fun k hk hne => ?_⟩;rw [heap_grow_old _ _ (by simpa [putRow, mapBlock, Sort.ahead] using hk)];have hne' : g ≠ k := fun h => hne (by rw [h])
 simp [putRow, mapBlock, Sort.ahead, Array.getElem?_modify, hne']
theorem Own.putS (h : Own 1 strv w base e (some ⟨g, 0, none⟩) n c l) (hd : d.length = n) {m : Nat} (hm : m ≤ n) :
  Own 1 strv (grow (putRow encStr (Sort.ahead w q) g 0 d.toArray) os) base e (some ⟨g, 0, none⟩) m c ((d.take m).map ofL) := by
 rcases h.2.2 with ⟨hv, -⟩ | ⟨g', cap, cur, hv, hb, hg, hnc, hcm, hcs, htake⟩
 ·cases hv
 ·cases hv
  have hlt : g < w.heap.size := (Array.getElem?_eq_some_iff.1 hg).1;have hl : ((d.take m).map ofL).length = m := by rw [List.length_map, List.length_take]; omega
  refine ⟨hl, by rw [flat_length flat_strv, hl], .inr ⟨g, c, Go.Sort.putCells encStr 0 d.toArray cur, rfl, hb, ?_, by omega, hcm, by simp [Go.Sort.putCells, hcs], ?_⟩⟩
  ·rw [putS_block _ _ _ _ _ hlt, hg]
   rfl
  ·rw [strv_map]
   apply List.ext_getElem?
   intro k
   by_cases hk : k < m
   ·have hkc : k < cur.size := by omega
    have hkd : k < d.length := by omega
    rw [List.getElem?_take, if_pos (by omega), List.getElem?_map, List.getElem?_map, List.getElem?_take, if_pos hk, Array.getElem?_toList, List.getElem?_eq_getElem hkd];simp only [Go.Sort.putCells, Array.getElem?_mapIdx, Array.getElem?_eq_getElem hkc, Option.map_some];rw [if_pos ⟨Nat.zero_le _, by simp; omega⟩, Nat.sub_zero, getElem!_pos _ k (by simpa using hkd)]
    simp [encStr, ofL]
   ·rw [List.getElem?_eq_none (by simp; omega), List.getElem?_eq_none (by simp; omega)]
theorem Own.holdsS (h : Own 1 strv w base e (some ⟨g, 0, none⟩) n c l) : Holds encStr w g 0 (l.map toL).toArray := by
 intro j hj;have hj' : j < l.length := by simpa using hj
 have hs := h.sl flat_strv;have hn := h.len;obtain ⟨b', off', e', -, -, -, hc⟩ := hs.at_ (by omega)
 cases e'
 have := hc j l[j] (List.getElem?_eq_getElem hj') 0 (.string l[j]) rfl;rw [getElem!_pos _ j hj];have he : encStr (l.map toL).toArray[j] = .string l[j] := by
  simp only [List.getElem_toArray, List.getElem_map];exact congrArg Value.string (ofL_toL _)
 rw [he]
 simpa using this
end
section
variable {w : World} {base n c : Nat} {A : Option Addr} {l : List ByteArray}
theorem sortL_calls (h : Own 1 strv w base 9 A n c l) (hn : n ≤ 1000000000) :
  Calls Tryz.prog 225 #[.slice A n c, .func (.func 226) #[] #[]] w fun e w' => e = .returned (.tuple #[]) ∧ Own 1 strv w' base 9 A n c (((l.map toL).mergeSort fun x y => !(ltL y x)).map ofL) ∧ w.grownBy w' (Value.slice A n c).ownBlock := by
 rcases h.2.2 with ⟨hv, hn0⟩ | ⟨g, cap, cur, hv, hb, hg, hnc, hcm, hcs, htake⟩
 ·cases hv
  have hl := List.eq_nil_of_length_eq_zero h.len;subst hl;refine (Tryz.slices_SortFunc_string_none none 0 _ w).mono ?_;rintro e w' ⟨rfl, rfl⟩;refine ⟨rfl, ?_, ⟨rfl, rfl, rfl, zR, fun _ _ _ => rfl⟩⟩
  simpa using h
 ·cases hv
  have hlt : g < w.heap.size := (Array.getElem?_eq_some_iff.1 hg).1;have eg : ∀ args w, (callFunc 226 args).run Tryz.prog w = .ok (.enter 226 args) w := enters_of Tryz.func226 (by kernel_rfl) rfl;have hsz : (l.map toL).toArray.size = n := by simp [h.len]
  have hcmp : CmpReads Tryz.prog 226 #[] encStr cmpB g 0 (l.map toL).toArray.size w := fun m os dk hs x y => (compareLabels_calls (ofL x) (ofL y) _).mono fun e w' ⟨he, hw⟩ => ⟨by rw [he, toL_ofL, toL_ofL], 0, hw⟩
  have hq := Tryz.slices_SortFunc_string cmpB swoL 226 #[] g 0 c (l.map toL).toArray w eg hcmp.lays h.holdsS hlt (by rw [hsz]; omega) apartL;rw [hsz] at hq;refine hq.mono ?_;rintro e w' ⟨rfl, q, os, rfl⟩;have hd : ((l.map toL).mergeSort fun x y => !(ltL y x)).length = n := by rw [List.length_mergeSort, List.length_map, h.len]
  refine ⟨rfl, ?_, putS_grown _ _ _ _ _⟩;have := h.putS (d := (l.map toL).mergeSort fun x y => !(ltL y x)) (q := q) (os := os) hd (Nat.le_refl n)
  rwa [List.take_of_length_le (by rw [hd]; exact zR)] at this
theorem compactL_calls (h : Own 1 strv w base 9 A n c l) (hn : n ≤ 1000000000) :
  Calls Tryz.prog 227 #[.slice A n c] w fun e w' => e = .returned (.slice A (Lib.compact (l.map toL)).length c) ∧ Own 1 strv w' base 9 A (Lib.compact (l.map toL)).length c ((Lib.compact (l.map toL)).map ofL) ∧ w.grownBy w' (Value.slice A n c).ownBlock := by
 rcases h.2.2 with ⟨hv, hn0⟩ | ⟨g, cap, cur, hv, hb, hg, hnc, hcm, hcs, htake⟩
 ·cases hv
  have hl := List.eq_nil_of_length_eq_zero h.len;subst hl;refine (Tryz.slices_Compact_string_empty none 0 w).mono ?_;rintro e w' ⟨rfl, rfl⟩;exact ⟨rfl, h, ⟨rfl, rfl, rfl, zR, fun _ _ _ => rfl⟩⟩
 ·cases hv
  have hlt : g < w.heap.size := (Array.getElem?_eq_some_iff.1 hg).1;have hlen := compact_length_le (l.map toL);have hln : (l.map toL).length = n := by rw [List.length_map, h.len]
  have hq := Tryz.slices_Compact_string g 0 c (l.map toL) w h.holdsS (by omega) (by omega);rw [hln] at hq hlen;refine hq.mono ?_;rintro e w' ⟨rfl, q, rfl⟩;have hd : (Lib.compact (l.map toL) ++ List.replicate (n - (Lib.compact (l.map toL)).length) []).length = n := by simp; omega
  have h1 := h.putS (d := Lib.compact (l.map toL) ++ List.replicate (n - (Lib.compact (l.map toL)).length) []) (q := q) (os := #[]) hd hlen;have h2 := putS_grown w g q (Lib.compact (l.map toL) ++ List.replicate (n - (Lib.compact (l.map toL)).length) []) #[];rw [grow_empty] at h1 h2;rw [List.take_left' rfl] at h1;exact ⟨rfl, h1, h2⟩
end
theorem map_toL_ofL (d : List (List UInt8)) : (d.map ofL).map toL = d := by
 rw [List.map_map];exact (List.map_congr_left fun x _ => toL_ofL x).trans (List.map_id _)
theorem compactD_calls {w : World} {base n c : Nat} {A : Option Addr} {d : List (List UInt8)} (h : Own 1 strv w base 9 A n c (d.map ofL)) (hn : n ≤ 1000000000) :
  Calls Tryz.prog 227 #[.slice A n c] w fun e w' => e = .returned (.slice A (Lib.compact d).length c) ∧ Own 1 strv w' base 9 A (Lib.compact d).length c ((Lib.compact d).map ofL) ∧ w.grownBy w' (Value.slice A n c).ownBlock := by
 have := compactL_calls h hn
 rwa [map_toL_ofL] at this
end Go.Proofs.YtnhomkmfbngmgaaGreatDoor
namespace Go.Proofs.YtnhomkmfbngmgaaGreatDoor
section
variable (src : Nat → Prop) (arc : Nat → Nat → Prop)
def lay : Nat → Nat → Prop
 | 0, k => src k
 | n + 1, k => lay n k ∨ ∃ a, lay n a ∧ arc a k
theorem lay_mono {n m k : Nat} (h : lay src arc n k) (hm : n ≤ m) : lay src arc m k := by
 induction m with
 | zero =>
  have : n = 0 := by omega
  subst this; exact h
 | succ m ih =>
  rcases Nat.lt_or_ge m n with h1 | h1
  ·have : n = m + 1 := by omega
   subst this; exact h
  ·exact .inl (ih h1)
def least (d k : Nat) : Prop := lay src arc d k ∧ ∀ m, m < d → ¬ lay src arc m k
theorem least_uniq {d e k : Nat} (h : least src arc d k) (g : least src arc e k) : d = e := by
 rcases Nat.lt_trichotomy d e with h1 | h1 | h1
 ·exact absurd h.1 (g.2 d h1)
 ·exact h1
 ·exact absurd g.1 (h.2 e h1)
theorem least_of {n k : Nat} (h : lay src arc n k) : ∃ d, d ≤ n ∧ least src arc d k := by
 induction n with
 | zero => exact ⟨0, zR, h, fun m hm => absurd hm (by omega)⟩
 | succ n ih =>
  by_cases h1 : lay src arc n k
  ·obtain ⟨d, h2, h3⟩ := ih h1
   exact ⟨d, by omega, h3⟩
  ·refine ⟨n + 1, zR, h, fun m hm hl => h1 (lay_mono src arc hl (by omega))⟩
theorem least_pred {n k : Nat} (h : least src arc (n + 1) k) : ∃ a, least src arc n a ∧ arc a k := by
 obtain ⟨h1, h2⟩ := h
 rcases h1 with h1 | ⟨a, ha, hk⟩
 ·exact absurd h1 (h2 n (by omega))
 ·refine ⟨a, ⟨ha, fun m hm hl => ?_⟩, hk⟩
  exact h2 (m + 1) (by omega) (.inr ⟨a, hl, hk⟩)
def DistIs (n : Nat) (out : List Int) : Prop := out.length = n ∧ ∀ (k : Nat) (x : Int), out[k]? = some x → (0 ≤ x → least src arc x.toNat k) ∧ (x < 0 → x = -1 ∧ ∀ m, ¬ lay src arc m k)
theorem DistIs.uniq {n : Nat} {a b : List Int} (h : DistIs src arc n a) (g : DistIs src arc n b) : a = b := by
 apply List.ext_getElem?
 intro k
 by_cases hk : k < n
 ·have ha : a[k]? = some (a[k]'(by rw [h.1]; exact hk)) := List.getElem?_eq_getElem _
  have hb : b[k]? = some (b[k]'(by rw [g.1]; exact hk)) := List.getElem?_eq_getElem _;rw [ha, hb];generalize (a[k]'(by rw [h.1]; exact hk)) = x at *;generalize (b[k]'(by rw [g.1]; exact hk)) = y at *;obtain ⟨h1, h2⟩ := h.2 k x ha;obtain ⟨g1, g2⟩ := g.2 k y hb
  by_cases hx : 0 ≤ x
  ·by_cases hy : 0 ≤ y
   ·have := least_uniq src arc (h1 hx) (g1 hy)
    congr 1
    omega
   ·exact absurd (h1 hx).1 ((g2 (by omega)).2 _)
  ·by_cases hy : 0 ≤ y
   ·exact absurd (g1 hy).1 ((h2 (by omega)).2 _)
   ·rw [(h2 (by omega)).1, (g2 (by omega)).1]
 ·rw [List.getElem?_eq_none (by rw [h.1]; omega), List.getElem?_eq_none (by rw [g.1]; omega)]
def RoundIs (N n : Nat) (out : List Int) : Prop := out.length = N ∧ ∀ (k : Nat) (x : Int), out[k]? = some x → (0 ≤ x → least src arc x.toNat k ∧ x ≤ n) ∧ (x < 0 → x = -1 ∧ ¬ lay src arc n k)
theorem RoundIs.start {N : Nat} {out : List Int} (hl : out.length = N) (h : ∀ (k : Nat) (x : Int), out[k]? = some x → (x = 0 ∧ src k) ∨ (x = -1 ∧ ¬ src k)) : RoundIs src arc N 0 out := by
 refine ⟨hl, fun k x hx => ?_⟩
 rcases h k x hx with ⟨rfl, hs⟩ | ⟨rfl, hs⟩
 ·exact ⟨fun _ => ⟨⟨hs, fun m hm => absurd hm (by omega)⟩, by omega⟩, fun h => absurd h (by omega)⟩
 ·exact ⟨fun h => absurd h (by omega), fun _ => ⟨rfl, hs⟩⟩
theorem RoundIs.done {N n : Nat} {out : List Int} (h : RoundIs src arc N n out) (hin : ∀ a k, arc a k → a < N ∧ k < N) (hsrc : ∀ k, src k → k < N)
  (hstop : ∀ (a k : Nat) (x y : Int), arc a k → out[a]? = some x → out[k]? = some y → 0 ≤ x → 0 ≤ y) : DistIs src arc N out := by
 refine ⟨h.1, fun k x hx => ⟨fun h0 => ((h.2 k x hx).1 h0).1, fun h0 => ⟨((h.2 k x hx).2 h0).1, ?_⟩⟩⟩;have key : ∀ (m k : Nat), lay src arc m k → k < N ∧ ∀ x, out[k]? = some x → 0 ≤ x := by
  intro m
  induction m with
  | zero =>
   intro k hk;refine ⟨hsrc k hk, fun x hx => ?_⟩
   rcases Int.lt_or_le x 0 with h1 | h1
   ·exact absurd (lay_mono src arc (n := 0) (m := n) hk (Nat.zero_le _)) ((h.2 k x hx).2 h1).2
   ·exact h1
  | succ m ih =>
   intro k hk
   rcases hk with hk | ⟨a, ha, hak⟩
   ·exact ih k hk
   ·obtain ⟨h1, h2⟩ := ih a ha
    refine ⟨(hin a k hak).2, fun x hx => ?_⟩;have hax : out[a]? = some (out[a]'(by rw [h.1]; exact h1)) := List.getElem?_eq_getElem _;exact hstop a k _ x hak hax hx (h2 _ hax)
 intro m hm;have := (key m k hm).2 x hx;omega
structure QueIs (N : Nat) (out : List Int) (todo : List Nat) : Prop where
 len : out.length = N
 exact_ : ∀ (k : Nat) (x : Int), out[k]? = some x → (0 ≤ x → least src arc x.toNat k) ∧ (x < 0 → x = -1)
 src_ : ∀ k, src k → ∃ x : Int, out[k]? = some x ∧ 0 ≤ x
 todo_ : ∀ k, k ∈ todo → ∃ x : Int, out[k]? = some x ∧ 0 ≤ x
 done_ : ∀ (a k : Nat) (x : Int), out[a]? = some x → 0 ≤ x → a ∉ todo → arc a k → ∃ y : Int, out[k]? = some y ∧ 0 ≤ y
 sorted : todo.Pairwise fun a b => ∀ (x y : Int), out[a]? = some x → out[b]? = some y → x ≤ y
 near : ∀ a, todo.head? = some a → ∀ b, b ∈ todo → ∀ (x y : Int), out[a]? = some x → out[b]? = some y → y ≤ x + 1
theorem QueIs.done {N : Nat} {out : List Int} (h : QueIs src arc N out []) (hin : ∀ a k, arc a k → a < N ∧ k < N) (hsrc : ∀ k, src k → k < N) : DistIs src arc N out := by
 refine ⟨h.len, fun k x hx => ⟨(h.exact_ k x hx).1, fun h0 => ⟨(h.exact_ k x hx).2 h0, ?_⟩⟩⟩;have key : ∀ m k, lay src arc m k → ∃ y : Int, out[k]? = some y ∧ 0 ≤ y := by
  intro m
  induction m with
  | zero => exact fun k hk => h.src_ k hk
  | succ m ih =>
   intro k hk
   rcases hk with hk | ⟨a, ha, hak⟩
   ·exact ih k hk
   ·obtain ⟨y, hy, hy0⟩ := ih a ha
    exact h.done_ a k y hy hy0 (by simp) hak
 intro m hm;obtain ⟨y, hy, hy0⟩ := key m k hm;rw [hx] at hy
 cases hy
 omega
theorem QueIs.found {N : Nat} {out : List Int} {k : Nat} {todo : List Nat} (h : QueIs src arc N out (k :: todo)) {m : Int} (hm : out[k]? = some m) : ∀ (d b : Nat), (d : Int) ≤ m → least src arc d b → ∃ y : Int, out[b]? = some y ∧ 0 ≤ y := by
 intro d
 induction d with
 | zero => exact fun b _ hb => h.src_ b hb.1
 | succ d ih =>
  intro b hd hb;obtain ⟨a, ha, hab⟩ := least_pred src arc hb;obtain ⟨y, hy, hy0⟩ := ih a (by omega) ha;have hyd : y.toNat = d := least_uniq src arc ((h.exact_ a y hy).1 hy0) ha;refine h.done_ a b y hy hy0 ?_ hab;intro hin
  rcases List.mem_cons.1 hin with rfl | hin
  ·rw [hm] at hy
   cases hy
   omega
  ·have := (List.pairwise_cons.1 h.sorted).1 a hin m y hm hy
   omega
theorem QueIs.add {N : Nat} {out : List Int} {k b : Nat} {todo : List Nat} (h : QueIs src arc N out (k :: todo)) {m x : Int} (hm : out[k]? = some m) (hb : out[b]? = some x) (hx : x < 0) (hkb : arc k b) :
  QueIs src arc N (out.set b (m + 1)) (k :: (todo ++ [b])) := by
 have hm0 : 0 ≤ m := by
  obtain ⟨y, hy, hy0⟩ := h.todo_ k (by simp);rw [hm] at hy
  cases hy
  exact hy0
 have hbl : b < out.length := (List.getElem?_eq_some_iff.1 hb).1;have hne : ∀ {j : Nat} {y : Int}, out[j]? = some y → 0 ≤ y → j ≠ b := by
  rintro j y hy hy0 rfl;rw [hb] at hy
  cases hy
  omega
 have hkeep : ∀ {j : Nat} {y : Int}, out[j]? = some y → 0 ≤ y → (out.set b (m + 1))[j]? = some y := fun hy hy0 => by
  rw [List.getElem?_set_ne (fun e => hne hy hy0 e.symm)];exact hy
 have hself : (out.set b (m + 1))[b]? = some (m + 1) := List.getElem?_set_self hbl;have hlay : least src arc (m + 1).toNat b := by
  have hk := (h.exact_ k m hm).1 hm0;rw [show (m + 1).toNat = m.toNat + 1 by omega];refine ⟨.inr ⟨k, hk.1, hkb⟩, fun j hj hl => ?_⟩;obtain ⟨d, hd, hld⟩ := least_of src arc hl;obtain ⟨y, hy, hy0⟩ := h.found src arc hm d b (by omega) hld;rw [hb] at hy
  cases hy
  omega
 have hold : ∀ {j : Nat} {y : Int}, j ∈ k :: todo → (out.set b (m + 1))[j]? = some y → out[j]? = some y := fun hj hy => by
  obtain ⟨z, hz, hz0⟩ := h.todo_ _ hj;rw [hkeep hz hz0] at hy;rw [hz, hy]
 have hmb : ∀ j ∈ k :: todo, ∀ y, out[j]? = some y → y ≤ m + 1 := fun j hj y hy => h.near k rfl j hj m y hm hy
 refine ⟨by rw [List.length_set]; exact h.len, fun j y hy => ?_, fun j hj => ?_, fun j hj => ?_, fun a j y hy hy0 ha haj => ?_, ?_, ?_⟩
 ·by_cases e : j = b
  ·subst e
   rw [hself] at hy
   cases hy
   exact ⟨fun _ => hlay, fun h0 => absurd h0 (by omega)⟩
  ·rw [List.getElem?_set_ne (fun e' => e e'.symm)] at hy
   exact h.exact_ j y hy
 ·obtain ⟨y, hy, hy0⟩ := h.src_ j hj
  exact ⟨y, hkeep hy hy0, hy0⟩
 ·rw [← List.cons_append, List.mem_append] at hj
  rcases hj with hj | hj
  ·obtain ⟨y, hy, hy0⟩ := h.todo_ j hj
   exact ⟨y, hkeep hy hy0, hy0⟩
  ·rw [List.mem_singleton.1 hj]
   exact ⟨_, hself, by omega⟩
 ·have hab : a ≠ b := by
   rintro rfl;exact ha (by simp)
  rw [List.getElem?_set_ne (fun e => hab e.symm)] at hy;obtain ⟨z, hz, hz0⟩ := h.done_ a j y hy hy0 (fun hin => ha (by rw [← List.cons_append, List.mem_append]; exact .inl hin)) haj;exact ⟨z, hkeep hz hz0, hz0⟩
 ·rw [← List.cons_append, List.pairwise_append]
  refine ⟨?_, by simp, fun a ha c hc y z hy hz => ?_⟩
  ·refine List.Pairwise.imp_of_mem ?_ h.sorted
   intro a c ha hc hq y z hy hz;exact hq y z (hold ha hy) (hold hc hz)
  ·rw [List.mem_singleton.1 hc, hself] at hz
   cases hz
   exact hmb a ha y (hold ha hy)
 ·intro a ha c hc y z hy hz
  cases ha
  have hym := hold (by simp) hy;rw [hm] at hym
  cases hym
  rw [← List.cons_append, List.mem_append] at hc
  rcases hc with hc | hc
  ·exact hmb c hc z (hold hc hz)
  ·rw [List.mem_singleton.1 hc, hself] at hz
   cases hz
   omega
theorem QueIs.pop {N : Nat} {out : List Int} {k : Nat} {todo : List Nat} (h : QueIs src arc N out (k :: todo)) (hk : ∀ b, arc k b → ∃ y : Int, out[b]? = some y ∧ 0 ≤ y) : QueIs src arc N out todo := by
 obtain ⟨m, hm, hm0⟩ := h.todo_ k (by simp);refine ⟨h.len, h.exact_, h.src_, fun j hj => h.todo_ j (List.mem_cons_of_mem _ hj), fun a j y hy hy0 ha haj => ?_, (List.pairwise_cons.1 h.sorted).2, fun a ha b hb x y hx hy => ?_⟩
 ·by_cases e : a = k
  ·subst e
   exact hk j haj
  ·exact h.done_ a j y hy hy0 (fun hin => by
    rcases List.mem_cons.1 hin with hin | hin
    ·exact e hin
    ·exact ha hin) haj
 ·have h1 := h.near k rfl b (List.mem_cons_of_mem _ hb) m y hm hy
  have h2 := (List.pairwise_cons.1 h.sorted).1 a (List.mem_of_mem_head? ha) m x hm hx;omega
theorem QueIs.start {N : Nat} {out : List Int} {todo : List Nat} (hl : out.length = N) (h : ∀ (k : Nat) (x : Int), out[k]? = some x → (x = 0 ∧ src k) ∨ (x = -1 ∧ ¬ src k)) (hs : ∀ k, src k ↔ k ∈ todo) (hN : ∀ k, src k → k < N) : QueIs src arc N out todo := by
 have hz : ∀ k, src k → out[k]? = some 0 := fun k hk => by
  have ho : out[k]? = some (out[k]'(by rw [hl]; exact hN k hk)) := List.getElem?_eq_getElem _
  rcases h k _ ho with ⟨h1, _⟩ | ⟨_, h1⟩
  ·rw [ho, h1]
  ·exact absurd hk h1
 have hzt : ∀ k x, k ∈ todo → out[k]? = some x → x = 0 := fun k x hk hx => by
  rw [hz k ((hs k).2 hk)] at hx;exact (Option.some.inj hx).symm
 refine ⟨hl, fun k x hx => ?_, fun k hk => ⟨0, hz k hk, by omega⟩, fun k hk => ⟨0, hz k ((hs k).2 hk), by omega⟩, fun a k x hx hx0 ha _ => ?_, ?_, fun a ha b hb x y hx hy => ?_⟩
 ·rcases h k x hx with ⟨rfl, h1⟩ | ⟨rfl, h1⟩
  ·exact ⟨fun _ => ⟨h1, fun m hm => absurd hm (by simp)⟩, fun h0 => absurd h0 (by omega)⟩
  ·exact ⟨fun h0 => absurd h0 (by omega), fun _ => rfl⟩
 ·rcases h a x hx with ⟨rfl, h1⟩ | ⟨rfl, h1⟩
  ·exact absurd ((hs a).1 h1) ha
  ·omega
 ·rw [List.pairwise_iff_forall_sublist]
  intro a b hab x y hx hy;have ha := hab.subset (List.mem_cons_self);have hb := hab.subset (List.mem_cons_of_mem a (List.mem_cons_self));rw [hzt a x ha hx, hzt b y hb hy];omega
 ·rw [hzt a x (List.mem_of_mem_head? ha) hx, hzt b y hb hy]
  omega
end
def arcE (fw : Bool) (es : List Ed) (a k : Nat) : Prop := ∃ e : Ed, e ∈ es ∧ (if fw = true then e.1 = (a : Int) ∧ e.2.2 = (k : Int) else e.2.2 = (a : Int) ∧ e.1 = (k : Int))
def srcE (l : List Int) (k : Nat) : Prop := (k : Int) ∈ l
noncomputable def distF (fw : Bool) (N : Nat) (es : List Ed) (l : List Int) : List Int :=
 open Classical in if h : ∃ out, DistIs (srcE l) (arcE fw es) N out then h.choose else []
theorem distF_of {fw : Bool} {N : Nat} {es : List Ed} {l : List Int} {out : List Int} (h : DistIs (srcE l) (arcE fw es) N out) : distF fw N es l = out := by
 have hx : ∃ out, DistIs (srcE l) (arcE fw es) N out := ⟨out, h⟩;unfold distF;rw [dif_pos hx];exact DistIs.uniq _ _ hx.choose_spec h
section
variable {N n : Nat} {es : List Ed} {out next : List Int} {i : Nat} {e : Ed}
end
def negs : List Int → Nat
 | [] => 0
 | x :: l => (if x < 0 then 1 else 0) + negs l
theorem negs_set : ∀ {l : List Int} {k : Nat} {z v : Int}, l[k]? = some z → z < 0 → 0 ≤ v → negs (l.set k v) + 1 = negs l
 | [], k, z, v, h, _, _ => by simp at h
 | x :: l, 0, z, v, h, hz, hv => by
  simp at h
  subst h;simp only [List.set_cons_zero, negs];rw [if_neg (by omega), if_pos hz];omega
 | x :: l, k + 1, z, v, h, hz, hv => by
  have := negs_set (l := l) (k := k) (v := v) (by simpa using h) hz hv;simp only [List.set_cons_succ, negs];omega
theorem negs_le : ∀ (l : List Int), negs l ≤ l.length
 | [] => zR
 | x :: l => by
  have := negs_le l;simp only [negs, List.length_cons]
  split <;> omega
section
variable {es : List Ed} {vs : List Int} {N rd i : Nat} {out nx : List Int}
theorem arcE_in {N : Nat} (h : ∀ e ∈ es, (0 ≤ e.1 ∧ e.1 < (N : Int)) ∧ (0 ≤ e.2.2 ∧ e.2.2 < (N : Int))) {fw : Bool} : ∀ a k, arcE fw es a k → a < N ∧ k < N := by
 rintro a k ⟨e, he, h1⟩;have := h e he
 cases fw
 ·rw [if_neg (by decide)] at h1
  omega
 ·rw [if_pos rfl] at h1
  omega
end
open Go.ChangeAt Go.ChangeShapes Go.RowKit Go.WideShapes
def inS (s : List Bool) (v : Nat) : Bool := s[v]?.getD false
theorem inS_some {s : List Bool} {v : Nat} {b : Bool} (h : s[v]? = some b) : inS s v = b := by unfold inS; rw [h]; rfl
theorem inS_big {s : List Bool} {v : Nat} (h : s.length ≤ v) : inS s v = false := by unfold inS; rw [List.getElem?_eq_none h]; rfl
theorem inS_get {s : List Bool} {v : Nat} (h : v < s.length) : s[v]? = some (inS s v) := by unfold inS; rw [List.getElem?_eq_getElem h]; rfl
theorem inS_set {s : List Bool} {v u : Nat} {b : Bool} (h : v < s.length) : inS (s.set v b) u = if v = u then b else inS s u := by
 unfold inS
 by_cases e : v = u
 ·subst e; rw [List.getElem?_set_self h]; simp
 ·rw [List.getElem?_set_ne e]; simp [e]
def setOf (n : Nat) (p : Nat → Bool) : List Bool := (List.range n).map p
theorem setOf_len (n : Nat) (p : Nat → Bool) : (setOf n p).length = n := by simp [setOf]
theorem setOf_get {n : Nat} {p : Nat → Bool} {v : Nat} (h : v < n) : (setOf n p)[v]? = some (p v) := by simp [setOf, h]
theorem inS_setOf {n : Nat} {p : Nat → Bool} {v : Nat} : inS (setOf n p) v = (decide (v < n) && p v) := by
 by_cases h : v < n
 ·rw [inS_some (setOf_get h)]; simp [h]
 ·rw [inS_big (by rw [setOf_len]; omega)]; simp [h]
def bv (b : Bool) : List Value := [.bool b]
abbrev SlB := Sl 1 bv
theorem flat_bv : Flat bv 1 := ⟨fun _ => rfl, fun x u h => by simp [bv] at h; subst h; rfl⟩
theorem elem_int64 : Elem Tryz.prog 32 2 1 8 := Elem.of Tryz.underlying32 info_int64 rfl (by omega) (by omega)
section
variable {w w' : World} {lo hi n : Nat} {A : Option Addr}
theorem SlB.get {l : List Bool} (h : SlB w lo hi A n l) {k : Nat} (hk : k < n) :
  ∃ b off, A = some ⟨b, off, none⟩ ∧ lo ≤ b ∧ b < hi ∧ b < w.heap.size ∧ l[k]? = some (inS l k) ∧ w.cell? ⟨b, off + k, none⟩ = some (.bool (inS l k)) ∧ w.frozen? ⟨b, off + k, none⟩ = false := by
 obtain ⟨b, off, e, g1, g2, g3, hc⟩ := h.at_ (by omega);have hl : k < l.length := by rw [h.len]; exact hk
 have h0 := hc k (inS l k) (inS_get hl) 0 _ rfl;simp only [Nat.mul_one, Nat.add_zero] at h0;exact ⟨b, off, e, g1, g2, g3, inS_get hl, h0.1, h0.2⟩
theorem SlB.put {b off : Nat} {l : List Bool} (h : SlB w lo hi (some ⟨b, off, none⟩) n l) {k : Nat} (hk : k < n) (x : Bool) : SlB (w.setCell ⟨b, off + k, none⟩ (.bool x)) lo hi (some ⟨b, off, none⟩) n (l.set k x) := by
 have := h.putN hk (fun _ => rfl) x
 simpa [putCells, bv] using this
theorem SlI.put' {b off : Nat} {l : List Int} (h : SlI w lo hi (some ⟨b, off, none⟩) n l) {k : Nat} (hk : k < n) (x : Int) : SlI (w.setCell ⟨b, off + k, none⟩ (.int .i64 x)) lo hi (some ⟨b, off, none⟩) n (l.set k x) := h.put hk x
end
theorem SlB.made (w : World) (n : Nat) : SlB (w.alloc (.cells (madeCells #[.bool false] n) 4)) w.heap.size (w.heap.size + 1) (some ⟨w.heap.size, 0, none⟩) n (setOf n fun _ => false) := by
 refine ⟨setOf_len _ _, fun hn => ⟨w.heap.size, 0, rfl, zR, by omega, by simp, fun k x hx j u hu => ?_⟩⟩;have hk : k < n := by
  have := (List.getElem?_eq_some_iff.1 hx).1
  rwa [setOf_len] at this
 rw [setOf_get hk] at hx
 cases hx
 have hj : j = 0 := by
  have := (List.getElem?_eq_some_iff.1 hu).1
  simp [bv] at this
  exact this
 subst hj
 simp [bv] at hu
 subst hu;have hg := heap_alloc_new w (.cells (madeCells #[.bool false] n) 4);refine ⟨(cell_of_row _ _ _ _ _ (0, 0) hg).trans ?_, frozen_of_row _ _ _ _ _ hg⟩
 simp [madeCells, Value.cells, hk, Nat.mod_one]
def intK (n k : Nat) (p : Nat → Int) : List Int := (List.range n).map fun v => if v < k then p v else 0
theorem intK_len (n k : Nat) (p : Nat → Int) : (intK n k p).length = n := by simp [intK]
theorem intK_all (n : Nat) (p : Nat → Int) : intK n n p = (List.range n).map p := by
 unfold intK
 apply List.map_congr_left
 intro v hv;rw [if_pos (List.mem_range.1 hv)]
theorem intK_step {n k : Nat} {p : Nat → Int} (hk : k < n) : (intK n k p).set k (p k) = intK n (k + 1) p := by
 apply List.ext_getElem?
 intro i
 by_cases e : k = i
 ·subst e
  rw [List.getElem?_set_self (by rw [intK_len]; exact hk)]
  simp [intK, hk]
 ·rw [List.getElem?_set_ne e]
  by_cases hi : i < n
  ·simp only [intK, List.getElem?_map, List.getElem?_range hi, Option.map_some]
   have : (i < k) ↔ (i < k + 1) := by omega
   simp [this]
  ·rw [List.getElem?_eq_none (by rw [intK_len]; omega), List.getElem?_eq_none (by rw [intK_len]; omega)]
theorem run_make_int (n : Nat) (hn : n ≤ 1048576) (W : World) : (Instr.makeSlice 32 (.int .i64 (n : Int)) (.int .i64 (n : Int))).run Tryz.prog W = .ok (.slice (some ⟨W.heap.size, 0, none⟩) n n) (W.alloc (.cells (madeCells #[.int .i64 0] n) 2)) := by
 obtain ⟨i0, hi0, hz0, hz1, hz2⟩ := info_parts info_int64;have h := make_row (P := Tryz.prog) 32 2 i0 _ _ n Tryz.underlying32 hi0 hz0 hz1 (by rw [hz2]; omega) (by omega) W;rw [Nat.mul_one] at h;exact h
theorem SlI.made (w : World) (n : Nat) (p : Nat → Int) : SlI (w.alloc (.cells (madeCells #[.int .i64 0] n) 2)) w.heap.size (w.heap.size + 1) (some ⟨w.heap.size, 0, none⟩) n (intK n 0 p) := by
 refine ⟨intK_len _ _ _, fun hn => ⟨w.heap.size, 0, rfl, zR, by omega, by simp, fun k x hx j u hu => ?_⟩⟩;have hk : k < n := by
  have := (List.getElem?_eq_some_iff.1 hx).1
  rwa [intK_len] at this
 have hx0 : x = 0 := by
  simp only [intK, List.getElem?_map, List.getElem?_range hk, Option.map_some] at hx
  simp at hx
  exact hx.symm
 subst hx0;have hj : j = 0 := by
  have := (List.getElem?_eq_some_iff.1 hu).1
  simp [iv] at this
  exact this
 subst hj
 simp [iv] at hu
 subst hu;have hg := heap_alloc_new w (.cells (madeCells #[.int .i64 0] n) 2);refine ⟨(cell_of_row _ _ _ _ _ (0, 0) hg).trans ?_, frozen_of_row _ _ _ _ _ hg⟩
 simp [madeCells, hk, Nat.mod_one]
end Go.Proofs.YtnhomkmfbngmgaaGreatDoor
