/-
  Several texts in one:
  The shelf's contracts of Contains, Compact and Sort at []int64, in plain words (printed by wip/shelf2.py with the kit's lay-plain). Conditions: sizes.
  slices.Sort and slices.Compact at []int64, on a slice of the call's own. Conditions: sizes.
  The states to which edges with a label lead from some states, by the program. Conditions: sizes.
  What internal edges reach from some states: lists that grow till nothing is new. Conditions: none.
  A list that grows, begun before some other blocks were made. Conditions: none.
  The states that internal edges reach from some states, by the program. Conditions: sizes.
  The states behind a label and internal edges, by the program. Conditions: sizes.
  Pairs of numbers as keys of a map. Conditions: numbers that fit.
  A set of pairs of numbers as a map to bools, and the loop over it in whatever order. Conditions: numbers that fit.
  slices.ContainsFunc at a function value that is asked of the list's own elements. Conditions: at most 1048576 elements.
-/
import Derived.Ground.SlgnProg
import Derived.Ground.SlgmProg
import Derived.Shelf.SlicesG.Turned
import Derived.Shelf.SlicesG.SearchI
import Derived.Shelf.SlicesG.CompactI
import Derived.Shelf.SlicesG.Cells
import Derived.Shelf.SortM.Plain
import Derived.Shelf.SortM.SortNone
import Derived.Shelf.SlGeneric
import Derived.Test.YthlaoedpjloloaaGreatDoorProg
import Derived.Test.YthlaoedpjloloaaGreatDoorBaseA
import Derived.Test.YthlaoedpjloloaaGreatDoorBaseE
import Derived.Test.YthlaoedpjloloaaGreatDoorBaseD
import Derived.Test.YthlaoedpjloloaaGreatDoorBaseF
import Derived.Deep.RegionHeld
import Derived.Deep.RegionLaw
import Derived.Deep.LoopGhost
import Derived.Deep.RegionHeld3
import Derived.Maps.OwnSet
import Derived.Maps.Views
import Derived.WideKeyPair
import Derived.DeepKeys4
import Derived.WalkArith
import Derived.Maps.RangeWalk
import Derived.Below
import Derived.Test.YthlaoedpjloloaaGreatDoorBaseB
namespace Go.Proofs
open Go.Shelf
def Tryz.laysContainsI_ren : Go.Shelf.Ren := ⟨fun | 31 => 131 | 29 => 163 | n => n, fun | 22 => 37 | 23 => 2 | 4 => 4 | 3 => 3 | 0 => 0 | n => n, fun | n => n⟩
theorem Tryz.laysContainsI : Go.Proofs.SlLaysN.n31 Tryz.prog Tryz.laysContainsI_ren := {
  mixed := by kernel_rfl
  f29 := ⟨Tryz.f163.name, by decide, Tryz.func163.trans (congrArg some (by kernel_rfl))⟩
  f31 := ⟨Tryz.f131.name, by decide, Tryz.func131.trans (congrArg some (by kernel_rfl))⟩
  t0 := Tryz.underlying0
  a0 := Tryz.isAgg0
  z0 := Tryz.sizeOf0
  v0 := Tryz.zeroValue0
  t3 := Tryz.underlying3
  a3 := Tryz.isAgg3
  z3 := Tryz.sizeOf3
  v3 := Tryz.zeroValue3
  t4 := Tryz.underlying4
  a4 := Tryz.isAgg4
  z4 := Tryz.sizeOf4
  v4 := Tryz.zeroValue4
  t22 := Tryz.underlying37
  a22 := Tryz.isAgg37
  z22 := Tryz.sizeOf37
  v22 := Tryz.zeroValue37
  t23 := Tryz.underlying2
  a23 := Tryz.isAgg2
  z23 := Tryz.sizeOf2
  v23 := Tryz.zeroValue2 }
open Go.Lib in
theorem Tryz.slices_Contains_int (b off n c : Nat) (zs : List Int) (x : Int) (w : World) (hz : n ≤ zs.length) (hbig : n ≤ 9223372036854775807) (hc : ∀ j, j < zs.length → w.cell? ⟨b, off + j, none⟩ = some (.int .i64 (zs.getD j 0))) :
    Calls Tryz.prog 131 #[.slice (some ⟨b, off, none⟩) n c, .int .i64 x] w fun e w' => e = .returned (.bool ((zs.take n).contains x)) ∧ w' = w := AnyG.slices_Contains_int Tryz.laysContainsI b off n c zs x w hz hbig hc
open Go.Lib in
theorem Tryz.slices_Contains_int_empty (a : Option Addr) (c : Nat) (x : Int) (w : World) :
    Calls Tryz.prog 131 #[.slice a 0 c, .int .i64 x] w fun e w' => e = .returned (.bool false) ∧ w' = w := AnyG.slices_Contains_int_empty Tryz.laysContainsI a c x w
def Tryz.laysCompactI_ren : Go.Shelf.Ren := ⟨fun | 43 => 133 | n => n, fun | 22 => 37 | 23 => 2 | 3 => 3 | 4 => 4 | 0 => 0 | n => n, fun | n => n⟩
theorem Tryz.laysCompactI : Go.Proofs.SlLaysN.n43 Tryz.prog Tryz.laysCompactI_ren := {
  mixed := by kernel_rfl
  f43 := ⟨Tryz.f133.name, by decide, Tryz.func133.trans (congrArg some (by kernel_rfl))⟩
  t0 := Tryz.underlying0
  a0 := Tryz.isAgg0
  z0 := Tryz.sizeOf0
  v0 := Tryz.zeroValue0
  t3 := Tryz.underlying3
  a3 := Tryz.isAgg3
  z3 := Tryz.sizeOf3
  v3 := Tryz.zeroValue3
  t4 := Tryz.underlying4
  a4 := Tryz.isAgg4
  z4 := Tryz.sizeOf4
  v4 := Tryz.zeroValue4
  t22 := Tryz.underlying37
  a22 := Tryz.isAgg37
  z22 := Tryz.sizeOf37
  v22 := Tryz.zeroValue37
  t23 := Tryz.underlying2
  a23 := Tryz.isAgg2
  z23 := Tryz.sizeOf2
  v23 := Tryz.zeroValue2
  i23 := by kernel_rfl }
open Go.RowKit Go.Lib Go.Sort in
theorem Tryz.slices_Compact_int (blk off cap : Nat) (zs : List Int) (w : World) (hH : Holds (Value.int .i64) w blk off zs.toArray) (hsz : zs.length ≤ 9223372036854775807) (hcap : zs.length ≤ cap) :
    Calls Tryz.prog 133 #[.slice (some ⟨blk, off, none⟩) zs.length cap] w fun e w' => e = .returned (.slice (some ⟨blk, off, none⟩) (Lib.compact zs).length cap) ∧ ∃ q, w' = putRow (Value.int .i64) (Sort.ahead w q) blk off (Lib.compact zs ++ List.replicate (zs.length - (Lib.compact zs).length) 0).toArray := AnyG.slices_Compact_int Tryz.laysCompactI blk off cap zs w hH hsz hcap
open Go.RowKit Go.Lib Go.Sort in
theorem Tryz.slices_Compact_int_empty (a : Option Addr) (cap : Nat) (w : World) :
    Calls Tryz.prog 133 #[.slice a 0 cap] w fun e w' => e = .returned (.slice a 0 cap) ∧ w' = w := AnyG.slices_Compact_int_empty Tryz.laysCompactI a cap w
def Tryz.laysSortI_ren : Go.Shelf.Ren := ⟨fun | 5 => 132 | 8 => 125 | 7 => 164 | 19 => 150 | 20 => 151 | 10 => 187 | 11 => 188 | 12 => 189 | 13 => 190 | 14 => 191 | 15 => 192 | 16 => 193 | 17 => 194 | 18 => 195 | 30 => 212 | 31 => 178 | 32 => 179 | 33 => 213 | 34 => 214 | 35 => 140 | 40 => 230 | n => n, fun | 23 => 37 | 25 => 2 | 3 => 3 | 32 => 159 | 22 => 37 | 0 => 0 | 44 => 183 | 46 => 185 | 4 => 4 | 36 => 176 | 35 => 175 | 41 => 180 | 5 => 5 | 9 => 9 | 53 => 199 | 57 => 203 | 63 => 221 | 64 => 222 | n => n, fun | n => n⟩
theorem Tryz.laysSortI : Go.Proofs.SlLaysM.n5 Tryz.prog Tryz.laysSortI_ren := {
  mixed := by kernel_rfl
  f5 := ⟨Tryz.f132.name, by decide, Tryz.func132.trans (congrArg some (by kernel_rfl))⟩
  f7 := ⟨Tryz.f164.name, by decide, Tryz.func164.trans (congrArg some (by kernel_rfl))⟩
  f8 := Tryz.func125.trans (congrArg some (by kernel_rfl))
  f10 := ⟨Tryz.f187.name, by decide, Tryz.func187.trans (congrArg some (by kernel_rfl))⟩
  f11 := ⟨Tryz.f188.name, by decide, Tryz.func188.trans (congrArg some (by kernel_rfl))⟩
  f12 := ⟨Tryz.f189.name, by decide, Tryz.func189.trans (congrArg some (by kernel_rfl))⟩
  f13 := ⟨Tryz.f190.name, by decide, Tryz.func190.trans (congrArg some (by kernel_rfl))⟩
  f14 := ⟨Tryz.f191.name, by decide, Tryz.func191.trans (congrArg some (by kernel_rfl))⟩
  f15 := ⟨Tryz.f192.name, by decide, Tryz.func192.trans (congrArg some (by kernel_rfl))⟩
  f16 := ⟨Tryz.f193.name, by decide, Tryz.func193.trans (congrArg some (by kernel_rfl))⟩
  f17 := ⟨Tryz.f194.name, by decide, Tryz.func194.trans (congrArg some (by kernel_rfl))⟩
  f18 := ⟨Tryz.f195.name, by decide, Tryz.func195.trans (congrArg some (by kernel_rfl))⟩
  f19 := Tryz.func150.trans (congrArg some (by kernel_rfl))
  f20 := Tryz.func151.trans (congrArg some (by kernel_rfl))
  f30 := ⟨Tryz.f212.name, by decide, Tryz.func212.trans (congrArg some (by kernel_rfl))⟩
  f31 := Tryz.func178.trans (congrArg some (by kernel_rfl))
  f32 := Tryz.func179.trans (congrArg some (by kernel_rfl))
  f33 := ⟨Tryz.f213.name, by decide, Tryz.func213.trans (congrArg some (by kernel_rfl))⟩
  f34 := ⟨Tryz.f214.name, by decide, Tryz.func214.trans (congrArg some (by kernel_rfl))⟩
  f35 := ⟨Tryz.f140.name, by decide, Tryz.func140.trans (congrArg some (by kernel_rfl))⟩
  f40 := ⟨Tryz.f230.name, by decide, Tryz.func230.trans (congrArg some (by kernel_rfl))⟩
  t0 := Tryz.underlying0
  a0 := Tryz.isAgg0
  z0 := Tryz.sizeOf0
  v0 := Tryz.zeroValue0
  t3 := Tryz.underlying3
  a3 := Tryz.isAgg3
  z3 := Tryz.sizeOf3
  v3 := Tryz.zeroValue3
  t4 := Tryz.underlying4
  a4 := Tryz.isAgg4
  z4 := Tryz.sizeOf4
  v4 := Tryz.zeroValue4
  t5 := Tryz.underlying5
  a5 := Tryz.isAgg5
  z5 := Tryz.sizeOf5
  v5 := Tryz.zeroValue5
  t9 := Tryz.underlying9
  a9 := Tryz.isAgg9
  z9 := Tryz.sizeOf9
  v9 := Tryz.zeroValue9
  t22 := Tryz.underlying37
  a22 := Tryz.isAgg37
  z22 := Tryz.sizeOf37
  v22 := Tryz.zeroValue37
  t23 := Tryz.underlying37
  a23 := Tryz.isAgg37
  z23 := Tryz.sizeOf37
  v23 := Tryz.zeroValue37
  t25 := Tryz.underlying2
  a25 := Tryz.isAgg2
  z25 := Tryz.sizeOf2
  v25 := Tryz.zeroValue2
  t32 := Tryz.underlying159
  a32 := Tryz.isAgg159
  z32 := Tryz.sizeOf159
  v32 := Tryz.zeroValue159
  t35 := Tryz.underlying175
  a35 := Tryz.isAgg175
  z35 := Tryz.sizeOf175
  v35 := Tryz.zeroValue175
  t36 := Tryz.underlying176
  a36 := Tryz.isAgg176
  z36 := Tryz.sizeOf176
  v36 := Tryz.zeroValue176
  t41 := Tryz.underlying180
  a41 := Tryz.isAgg180
  z41 := Tryz.sizeOf180
  v41 := Tryz.zeroValue180
  t44 := Tryz.underlying183
  a44 := Tryz.isAgg183
  z44 := Tryz.sizeOf183
  v44 := Tryz.zeroValue183
  t46 := Tryz.underlying185
  a46 := Tryz.isAgg185
  z46 := Tryz.sizeOf185
  v46 := Tryz.zeroValue185
  t53 := Tryz.underlying199
  a53 := Tryz.isAgg199
  z53 := Tryz.sizeOf199
  v53 := Tryz.zeroValue199
  t57 := Tryz.underlying203
  a57 := Tryz.isAgg203
  z57 := Tryz.sizeOf203
  v57 := Tryz.zeroValue203
  t63 := Tryz.underlying221
  a63 := Tryz.isAgg221
  z63 := Tryz.sizeOf221
  v63 := Tryz.zeroValue221
  t64 := Tryz.underlying222
  a64 := Tryz.isAgg222
  z64 := Tryz.sizeOf222
  v64 := Tryz.zeroValue222 }
open Go.RowKit Go.Lib Go.Sort in
theorem Tryz.slices_Sort_int (blk off cap : Nat) (zs : List Int) (w : World) (hH : Holds (Value.int .i64) w blk off zs.toArray) (hblk : blk < w.heap.size) (hsz : zs.length < 4611686018427387904) :
    Calls Tryz.prog 132 #[.slice (some ⟨blk, off, none⟩) zs.length cap] w fun e w' =>
      e = .returned (.tuple #[]) ∧ ∃ n os, w' = grow (putRow (Value.int .i64) (Sort.ahead w n) blk off (zs.mergeSort fun x y => decide (x ≤ y)).toArray) os := AnyM.slices_Sort_int Tryz.laysSortI blk off cap zs w hH hblk hsz
open Go.RowKit Go.Lib Go.Sort in
theorem Tryz.slices_Sort_int_none (p : Option Addr) (cap : Nat) (w : World) :
    Calls Tryz.prog 132 #[.slice p 0 cap] w fun e w' => e = .returned (.tuple #[]) ∧ w' = w := AnyM.slices_Sort_int_none Tryz.laysSortI p cap w
end Go.Proofs

namespace Go.Proofs.YthlaoedpjloloaaGreatDoor
open Go.RowKit Go.Sort Go.Lib
set_option linter.unusedVariables false
set_option linter.unusedSimpArgs false

def sortI (l : List Int) : List Int := l.mergeSort fun x y => decide (x ≤ y)
theorem sortI_nil : sortI [] = [] := by simp [sortI]
theorem sortI_len (l : List Int) : (sortI l).length = l.length := List.length_mergeSort _
theorem sortI_mem {l : List Int} {x : Int} : x ∈ sortI l ↔ x ∈ l := List.mem_mergeSort
theorem iv_map (l : List Int) : l.flatMap iv = l.map (Value.int .i64) := by
  induction l with
  | nil => rfl
  | cons x l ih => rw [List.flatMap_cons, ih]; rfl

theorem compact_mem {l : List Int} {x : Int} : x ∈ Lib.compact l ↔ x ∈ l := by
  unfold Lib.compact Lib.compactUpTo
  rw [List.mem_map]
  constructor
  · rintro ⟨k, hk, rfl⟩
    have hk' := List.mem_range.1 (List.mem_filter.1 hk).1
    rw [getElem!_pos _ k (by simpa using hk')]
    simp
  · intro hx
    obtain ⟨k, hk, rfl⟩ := List.mem_iff_getElem.1 hx
    have key : ∀ k, (hk : k < l.length) → ∃ a, a ∈ (List.range l.length).filter (Lib.keeps l.toArray) ∧ l.toArray[a]! = l[k] := by
      intro k
      induction k with
      | zero => exact fun hk => ⟨0, List.mem_filter.2 ⟨List.mem_range.2 hk, by simp [Lib.keeps]⟩, by rw [getElem!_pos _ 0 (by simpa using hk)]; simp⟩
      | succ k ih =>
        intro hk
        by_cases h : l.toArray[k + 1]! = l.toArray[k]!
        · obtain ⟨a, ha, e⟩ := ih (by omega)
          refine ⟨a, ha, ?_⟩
          rw [e]
          rw [getElem!_pos _ (k + 1) (by simpa using hk), getElem!_pos _ k (by simp; omega)] at h
          simpa using h.symm
        · exact ⟨k + 1, List.mem_filter.2 ⟨List.mem_range.2 hk, Lib.keeps_pos (by simpa using h)⟩, by rw [getElem!_pos _ (k + 1) (by simpa using hk)]; simp⟩
    exact key k hk
theorem compact_len (l : List Int) : (Lib.compact l).length ≤ l.length := by
  unfold Lib.compact Lib.compactUpTo
  rw [List.length_map]
  exact Nat.le_trans (List.length_filter_le _ _) (by simp)

section
variable {w : World} {base g n c q : Nat} {e : TypeId} {l d : List Int} {os : Array Obj}

theorem put_block (w : World) (g q : Nat) (d : List Int) (os : Array Obj) (hg : g < w.heap.size) :
    (grow (putRow (Value.int .i64) (Sort.ahead w q) g 0 d.toArray) os).heap[g]? = (w.heap[g]?).map (onCells (Go.Sort.putCells (Value.int .i64) 0 d.toArray)) := by
  rw [heap_grow_old _ _ (by simpa [putRow, mapBlock, Sort.ahead] using hg)]
  simp [putRow, mapBlock, Sort.ahead, Array.getElem?_modify]

theorem put_grown (w : World) (g q : Nat) (d : List Int) (os : Array Obj) : w.grownBy (grow (putRow (Value.int .i64) (Sort.ahead w q) g 0 d.toArray) os) (some g) := by
  refine ⟨rfl, rfl, rfl, by simp [putRow, mapBlock, Sort.ahead], fun k hk hne => ?_⟩
  rw [heap_grow_old _ _ (by simpa [putRow, mapBlock, Sort.ahead] using hk)]
  have hne' : g ≠ k := fun h => hne (by rw [h])
  simp [putRow, mapBlock, Sort.ahead, Array.getElem?_modify, hne']

theorem Own.put (h : Own 1 iv w base e (some ⟨g, 0, none⟩) n c l) (hd : d.length = n) {m : Nat} (hm : m ≤ n) :
    Own 1 iv (grow (putRow (Value.int .i64) (Sort.ahead w q) g 0 d.toArray) os) base e (some ⟨g, 0, none⟩) m c (d.take m) := by
  rcases h.2.2 with ⟨hv, -⟩ | ⟨g', cap, cur, hv, hb, hg, hnc, hcm, hcs, htake⟩
  · cases hv
  · cases hv
    have hlt : g < w.heap.size := (Array.getElem?_eq_some_iff.1 hg).1
    have hl : (d.take m).length = m := by rw [List.length_take]; omega
    refine ⟨hl, by rw [flat_length flat_iv, hl], .inr ⟨g, c, Go.Sort.putCells (Value.int .i64) 0 d.toArray cur, rfl, hb, ?_, by omega, hcm, by simp [Go.Sort.putCells, hcs], ?_⟩⟩
    · rw [put_block _ _ _ _ _ hlt, hg]
      rfl
    · rw [iv_map]
      apply List.ext_getElem?
      intro k
      by_cases hk : k < m
      · have hkc : k < cur.size := by omega
        have hkd : k < d.length := by omega
        rw [List.getElem?_take, if_pos (by omega), List.getElem?_map, List.getElem?_take, if_pos hk, Array.getElem?_toList, List.getElem?_eq_getElem hkd]
        simp only [Go.Sort.putCells, Array.getElem?_mapIdx, Array.getElem?_eq_getElem hkc, Option.map_some]
        rw [if_pos ⟨Nat.zero_le _, by simp; omega⟩, Nat.sub_zero, getElem!_pos _ k (by simpa using hkd)]
        simp
      · rw [List.getElem?_eq_none (by simp; omega), List.getElem?_eq_none (by simp; omega)]

theorem Own.holds (h : Own 1 iv w base e (some ⟨g, 0, none⟩) n c l) : Holds (Value.int .i64) w g 0 l.toArray := by
  intro j hj
  have hj' : j < l.length := by simpa using hj
  have hs := h.sl flat_iv
  have hn := h.len
  obtain ⟨b', off', e', -, -, -, hc⟩ := hs.at_ (by omega)
  cases e'
  have := hc j l[j] (List.getElem?_eq_getElem hj') 0 (.int .i64 l[j]) rfl
  rw [getElem!_pos _ j hj]
  simpa using this
end

section
variable {w : World} {base n c : Nat} {A : Option Addr} {l : List Int}

theorem sortI_calls (h : Own 1 iv w base 2 A n c l) (hn : n ≤ 1000000000) :
    Calls Tryz.prog 132 #[.slice A n c] w fun e w' => e = .returned (.tuple #[]) ∧ Own 1 iv w' base 2 A n c (sortI l) ∧ w.grownBy w' (Value.slice A n c).ownBlock := by
  rcases h.2.2 with ⟨hv, hn0⟩ | ⟨g, cap, cur, hv, hb, hg, hnc, hcm, hcs, htake⟩
  · cases hv
    have hl := List.eq_nil_of_length_eq_zero h.len
    subst hl
    refine (Tryz.slices_Sort_int_none none 0 w).mono ?_
    rintro e w' ⟨rfl, rfl⟩
    rw [sortI_nil]
    exact ⟨rfl, h, ⟨rfl, rfl, rfl, Nat.le_refl _, fun _ _ _ => rfl⟩⟩
  · cases hv
    have hlt : g < w.heap.size := (Array.getElem?_eq_some_iff.1 hg).1
    have hq := Tryz.slices_Sort_int g 0 c l w h.holds hlt (by have := h.len; omega)
    rw [h.len] at hq
    refine hq.mono ?_
    rintro e w' ⟨rfl, q, os, rfl⟩
    refine ⟨rfl, ?_, put_grown _ _ _ _ _⟩
    have := h.put (d := sortI l) (q := q) (os := os) ((sortI_len l).trans h.len) (Nat.le_refl n)
    rwa [List.take_of_length_le (by rw [sortI_len, h.len]; exact Nat.le_refl _)] at this

theorem compactI_calls (h : Own 1 iv w base 2 A n c l) (hn : n ≤ 1000000000) :
    Calls Tryz.prog 133 #[.slice A n c] w fun e w' => e = .returned (.slice A (Lib.compact l).length c) ∧ Own 1 iv w' base 2 A (Lib.compact l).length c (Lib.compact l) ∧ w.grownBy w' (Value.slice A n c).ownBlock := by
  rcases h.2.2 with ⟨hv, hn0⟩ | ⟨g, cap, cur, hv, hb, hg, hnc, hcm, hcs, htake⟩
  · cases hv
    have hl := List.eq_nil_of_length_eq_zero h.len
    subst hl
    refine (Tryz.slices_Compact_int_empty none 0 w).mono ?_
    rintro e w' ⟨rfl, rfl⟩
    exact ⟨rfl, h, ⟨rfl, rfl, rfl, Nat.le_refl _, fun _ _ _ => rfl⟩⟩
  · cases hv
    have hlt : g < w.heap.size := (Array.getElem?_eq_some_iff.1 hg).1
    have hlen := compact_len l
    have hq := Tryz.slices_Compact_int g 0 c l w h.holds (by have := h.len; omega) (by have := h.len; omega)
    rw [h.len] at hq hlen
    refine hq.mono ?_
    rintro e w' ⟨rfl, q, rfl⟩
    have hd : (Lib.compact l ++ List.replicate (n - (Lib.compact l).length) 0).length = n := by simp; omega
    have h1 := h.put (d := Lib.compact l ++ List.replicate (n - (Lib.compact l).length) 0) (q := q) (os := #[]) hd hlen
    have h2 := put_grown w g q (Lib.compact l ++ List.replicate (n - (Lib.compact l).length) 0) #[]
    rw [grow_empty] at h1 h2
    rw [List.take_left'  rfl] at h1
    exact ⟨rfl, h1, h2⟩
end

end Go.Proofs.YthlaoedpjloloaaGreatDoor

namespace Go.Proofs.YthlaoedpjloloaaGreatDoor
open Go.ChangeShapes Go.WideShapes Go.ChangeAt Go.RowKit Go.Sort
set_option linter.unusedVariables false
set_option linter.unusedSimpArgs false

theorem str_list_ne2 {a b : ByteArray} (h : ¬ a = b) : (b.toList == a.toList) = false ∧ ¬ b.toList = a.toList := by
  have h1 := str_neq (a := b) (b := a) (fun e => h e.symm)
  exact ⟨h1, fun e => by rw [e] at h1; simp at h1⟩

/-- The edge leads from one of the states by the label. -/
def hitS (ls : List ByteArray) (lab : ByteArray) (S : List Int) (e : Ed) : Bool := S.any (fun x => decide (x = e.1)) && (match ls[e.2.1.toNat]? with | some r => decide (r = lab) | none => false)
def folS (es : List Ed) (ls : List ByteArray) (lab : ByteArray) (S : List Int) : List Int := (es.filter (hitS ls lab S)).map (·.2.2)
def folV (es : List Ed) (ls : List ByteArray) (lab : ByteArray) (S : List Int) : List Int := Lib.compact (sortI (folS es ls lab S))
theorem hitS_at {ls : List ByteArray} {lab r : ByteArray} {S : List Int} {f lb tg : Int} (hr : ls[lb.toNat]? = some r) : hitS ls lab S (f, lb, tg) = (S.any (fun x => decide (x = f)) && decide (r = lab)) := by
  unfold hitS
  simp only [hr]
theorem folS_succ {es : List Ed} {k : Nat} {e : Ed} {ls : List ByteArray} {lab : ByteArray} {S : List Int} (hx : es[k]? = some e) : folS (es.take (k + 1)) ls lab S = folS (es.take k) ls lab S ++ (if hitS ls lab S e then [e.2.2] else []) := by
  unfold folS
  rw [List.take_add_one, hx, List.filter_append, List.map_append]
  congr 1
  by_cases h : hitS ls lab S e = true <;> simp [h]
theorem folS_len (es : List Ed) (ls : List ByteArray) (lab : ByteArray) (S : List Int) : (folS es ls lab S).length ≤ es.length := by
  unfold folS
  rw [List.length_map]
  exact List.length_filter_le _ _
theorem folV_len (es : List Ed) (ls : List ByteArray) (lab : ByteArray) (S : List Int) : (folV es ls lab S).length ≤ es.length :=
  Nat.le_trans (compact_len _) (by rw [sortI_len]; exact folS_len es ls lab S)
theorem folV_mem {es : List Ed} {ls : List ByteArray} {lab : ByteArray} {S : List Int} {v : Int} : v ∈ folV es ls lab S ↔ ∃ e ∈ es, e.1 ∈ S ∧ ls[e.2.1.toNat]? = some lab ∧ e.2.2 = v := by
  unfold folV
  rw [compact_mem, sortI_mem]
  unfold folS
  rw [List.mem_map]
  constructor
  · rintro ⟨e, he, rfl⟩
    obtain ⟨h1, h2⟩ := List.mem_filter.1 he
    unfold hitS at h2
    rw [Bool.and_eq_true, List.any_eq_true] at h2
    obtain ⟨⟨x, hx, hxe⟩, h3⟩ := h2
    refine ⟨e, h1, by rw [← of_decide_eq_true hxe]; exact hx, ?_, rfl⟩
    revert h3
    cases ls[e.2.1.toNat]? with
    | none => intro h; cases h
    | some r => intro h; rw [of_decide_eq_true h]
  · rintro ⟨e, h1, h2, h3, rfl⟩
    refine ⟨e, List.mem_filter.2 ⟨h1, ?_⟩, rfl⟩
    unfold hitS
    rw [Bool.and_eq_true, List.any_eq_true, h3]
    exact ⟨⟨e.1, h2, decide_eq_true rfl⟩, decide_eq_true rfl⟩

theorem Own.grown_below {α : Type} {size : Nat} {f : α → List Value} {w w' : World} {base n c B : Nat} {e : TypeId} {A : Option Addr} {l : List α} (h : Own size f w base e A n c l) (hg : w.grownBy w' (Value.slice A n c).ownBlock) (hB : B ≤ base) (hb : base ≤ w.heap.size) : Below B w w' :=
  (Below.refl _ _).grown hg (by omega) fun k hk => Nat.le_trans hB (h.lt k hk).1

set_option maxRecDepth 100000 in
set_option maxHeartbeats 3200000 in
theorem followS_calls (s0 s1 : Int) (A2 : Option Addr) (n2 k2 : Nat) (A3 : Option Addr) (n3 k3 : Nat) (A1 : Option Addr) (n1 c1 : Nat) (S : List Int) (lab : ByteArray) (ls : List ByteArray) (es : List Ed) (w : World) (lo hi lo1 hi1 : Nat)
    (t2 : SlS w lo hi A2 n2 ls) (t3 : SlE w lo hi A3 n3 es) (t1 : SlI w lo1 hi1 A1 n1 S) (hS : n1 ≤ 1048576) (hes : n3 ≤ 1048576) (hval : ltsV (s0, s1, ls, es) = true) :
    Calls Tryz.prog 118 #[.agg #[.int .i64 s0, .int .i64 s1, .slice A2 n2 k2, .slice A3 n3 k3], .slice A1 n1 c1, .string lab] w fun e w' => ∃ A n c, e = .returned (.slice A n c) ∧ Own 1 iv w' w.heap.size 2 A n c (folV es ls lab S) ∧ Below w.heap.size w w' := by
  have l2 := hide t2.len
  have l3 := hide t3.len
  have hlts := hide hval
  have hW0 := hide (show Below w.heap.size w (w.alloc (.cells #[.int .i64 s0, .int .i64 s1, .slice A2 n2 k2, .slice A3 n3 k3] 31)) from (Below.refl _ _).alloc (Nat.le_refl _) _)
  have kE := heap_alloc_new w (.cells #[.int .i64 s0, .int .i64 s1, .slice A2 n2 k2, .slice A3 n3 k3] 31)
  have hbt : w.heap.size < (w.alloc (.cells #[.int .i64 s0, .int .i64 s1, .slice A2 n2 k2, .slice A3 n3 k3] 31)).heap.size := by rw [World.size_alloc]; omega
  have hE := hide elem_int
  replace t1 := hide t1
  replace t2 := hide t2
  replace t3 := hide t3
  clear hval
  go_enter Tryz.func118, Tryz.ntmps118
  go_upto_region 3 with fail
  have c2 : (w.alloc (.cells #[.int .i64 s0, .int .i64 s1, .slice A2 n2 k2, .slice A3 n3 k3] 31)).cell? ⟨w.heap.size, 2, none⟩ = some (.slice A2 n2 k2) := (cell_of_row _ _ 2 _ _ (0, 0) kE).trans rfl
  have c3 : (w.alloc (.cells #[.int .i64 s0, .int .i64 s1, .slice A2 n2 k2, .slice A3 n3 k3] 31)).cell? ⟨w.heap.size, 3, none⟩ = some (.slice A3 n3 k3) := (cell_of_row _ _ 3 _ _ (0, 0) kE).trans rfl
  clear kE
  generalize hWW : (w.alloc (.cells #[.int .i64 s0, .int .i64 s1, .slice A2 n2 k2, .slice A3 n3 k3] 31)) = W0 at *
  clear hWW
  have hbt1 : w.heap.size + 1 ≤ W0.heap.size := hbt
  go_loopw [7, 13] (fun o i wr => ∃ k m c A, k ≤ n3 ∧ m ≤ k ∧ o = .slice A m c ∧ i = .int .i64 (k : Nat) ∧ Hid (Own 1 iv wr W0.heap.size 2 A m c (folS (es.take k) ls lab S)) ∧ Below W0.heap.size W0 wr) (fun _ i _ => n3 - (intOf i).toNat)
  case atStart => exact ⟨0, 0, 0, none, Nat.zero_le _, Nat.zero_le _, rfl, rfl, Own.nil_ _ _ _, Below.refl _ _⟩
  case round =>
    obtain ⟨k, m, c, A, hk, hm, rfl, rfl, hown, hb⟩ := hrel
    have hz := hb.size
    have hwb := hW0.out.trans (hb.mono (by omega))
    have y2 := (hb.cell (p := ⟨w.heap.size, 2, none⟩) hbt).trans c2
    have y3 := (hb.cell (p := ⟨w.heap.size, 3, none⟩) hbt).trans c3
    clear c2 c3
    by_cases hlt : k < n3
    · obtain ⟨b, off, f, lb, tg, rfl, -, -, g3, hx, p0, p1, p2, -, -, -⟩ := SlE.get t3.out hlt
      replace p0 := (hwb.cell g3).trans p0
      replace p1 := (hwb.cell (p := ⟨b, off + k * 3 + 1, none⟩) g3).trans p1
      replace p2 := (hwb.cell (p := ⟨b, off + k * 3 + 2, none⟩) g3).trans p2
      have hed := edge_of hlts.out hx
      have hl0 : (0 : Int) ≤ lb := hed.2.2.1
      have hl1 : lb < (n2 : Int) := by have := hed.2.2.2; have := l2.out; omega
      obtain ⟨b2, off2, r, rfl, -, -, g32, hr, p3, -⟩ := SlS.get t2.out (show lb.toNat < n2 by omega)
      have hh := hitS_at (lab := lab) (S := S) (f := f) (tg := tg) hr
      have hsu := folS_succ (ls := ls) (lab := lab) (S := S) hx
      have hbE : Below wr.heap.size wr (wr.alloc (.cells #[.int .i64 f, .int .i64 lb, .int .i64 tg] 99)) := (Below.refl _ _).alloc (Nat.le_refl _) _
      have kE := heap_alloc_new wr (.cells #[.int .i64 f, .int .i64 lb, .int .i64 tg] 99)
      have hgw : w.heap.size < wr.heap.size := by omega
      have x2 := (hbE.cell (p := ⟨w.heap.size, 2, none⟩) hgw).trans y2
      have x3 := (hbE.cell (p := ⟨w.heap.size, 3, none⟩) hgw).trans y3
      have z0 : (wr.alloc (.cells #[.int .i64 f, .int .i64 lb, .int .i64 tg] 99)).cell? ⟨wr.heap.size, 0, none⟩ = some (.int .i64 f) := (cell_of_row _ _ 0 _ _ (0, 0) kE).trans rfl
      have z1 : (wr.alloc (.cells #[.int .i64 f, .int .i64 lb, .int .i64 tg] 99)).cell? ⟨wr.heap.size, 1, none⟩ = some (.int .i64 lb) := (cell_of_row _ _ 1 _ _ (0, 0) kE).trans rfl
      have z2 : (wr.alloc (.cells #[.int .i64 f, .int .i64 lb, .int .i64 tg] 99)).cell? ⟨wr.heap.size, 2, none⟩ = some (.int .i64 tg) := (cell_of_row _ _ 2 _ _ (0, 0) kE).trans rfl
      have hbw : Below w.heap.size w (wr.alloc (.cells #[.int .i64 f, .int .i64 lb, .int .i64 tg] 99)) := hwb.trans (hbE.mono hwb.size)
      have p3' := (hbw.cell (p := ⟨b2, off2 + lb.toNat, none⟩) g32).trans p3
      have hbB := hb.trans (hbE.mono hz)
      have hzB := hbB.size
      have qc := containsI_calls f A1 n1 c1 S _ lo1 hi1 (t1.out.below hbw (.inr (Nat.le_refl _))) hS
      replace hown := hide (hown.out.alloc (.cells #[.int .i64 f, .int .i64 lb, .int .i64 tg] 99))
      have hI0 : (0 : Int) ≤ (k : Int) := by omega
      have hI1 : (k : Int) < (n3 : Int) := by omega
      replace hbB := hide hbB
      clear hed t1 t2 t3 hwb hb hbE kE p3 hz hbw
      generalize hany : S.any (fun x => decide (x = f)) = an at *
      clear hany
      replace qc := hide qc
      go_upto_region 5 with fail
      clear p0 p1 p2 y2 y3 x3
      generalize hWE : (wr.alloc (.cells #[.int .i64 f, .int .i64 lb, .int .i64 tg] 99)) = WE at *
      generalize hbE : wr.heap.size = bE at *
      clear hWE hbE
      have hza : ∀ o, W0.heap.size ≤ (WE.alloc o).heap.size := fun o => by rw [World.size_alloc]; omega
      by_cases hrl : r = lab
      · subst hrl
        have hself : (r.toList == r.toList) = true := beq_self_eq_true _
        rw [hh, decide_eq_true rfl, Bool.and_true] at hsu
        cases an with
        | true =>
          rw [if_pos rfl] at hsu
          replace hsu := hide hsu
          clear hx hr hh
          go_wp2_with (first
            | (go_at_call 131; (with_reducible refine qc.out.mono ?_); rintro e w' ⟨rfl, rfl⟩)
            | (at_builtin; (with_reducible refine wpList_app rfl (.tmp 31) (.tmp 34) rfl hE.out flat_iv rfl (hown.out.alloc _) rfl (Sl.lit1' _ 2 tg _ rfl 1 _ ?c0) ?c1 (hza _) ?_); rotate_right; intro A5 c5 w5 hown5 hgr5 hb5 _))
          case c0 => rfl
          case c1 => omega
          have hb6 := (hbB.out.alloc hzB (.cells #[.int .i64 tg] 2)).trans hb5
          replace hown5 : Hid (Own 1 iv w5 W0.heap.size 2 A5 (m + 1) c5 (folS (es.take (k + 1)) ls r S)) := by show Own _ _ _ _ _ _ _ _ _; rw [hsu.out]; exact hown5
          go_roundw
          case rel => exact ⟨k + 1, m + 1, c5, A5, by omega, by omega, rfl, by go_num, hown5, hb6⟩
          case measure => simp [intOf]; omega
        | false =>
          replace hown : Hid (Own 1 iv WE W0.heap.size 2 A m c (folS (es.take (k + 1)) ls r S)) := by show Own _ _ _ _ _ _ _ _ _; rw [hsu]; simpa using hown.out
          clear hx hr hh hsu
          go_wp2_with (first
            | (go_at_call 131; (with_reducible refine qc.out.mono ?_); rintro e w' ⟨rfl, rfl⟩))
          go_roundw
          case rel => exact ⟨k + 1, m, c, A, by omega, by omega, rfl, by go_num, hown, hbB.out⟩
          case measure => simp [intOf]; omega
      · obtain ⟨hne1, hne2⟩ := str_list_ne2 (a := lab) (b := r) (fun e => hrl e.symm)
        rw [hh, decide_eq_false hrl, Bool.and_false] at hsu
        replace hown : Hid (Own 1 iv WE W0.heap.size 2 A m c (folS (es.take (k + 1)) ls lab S)) := by show Own _ _ _ _ _ _ _ _ _; rw [hsu]; simpa using hown.out
        clear hx hr hh hsu hrl
        go_wp2_with fail
        go_roundw
        case rel => exact ⟨k + 1, m, c, A, by omega, by omega, rfl, by go_num, hown, hbB.out⟩
        case measure => simp [intOf]; omega
    · have hkn : k = n3 := by omega
      have hall : es.take k = es := List.take_of_length_le (by rw [l3.out, hkn]; exact Nat.le_refl _)
      rw [hall] at hown
      have hf := folS_len es ls lab S
      have hm9 : m ≤ 1000000000 := by omega
      have q1 := hide (sortI_calls hown.out hm9)
      have hwz : W0.heap.size ≤ wr.heap.size := hz
      replace hb := hide hb
      replace hwb := hide hwb
      clear t1 t2 t3
      go_wp2_with fail
      refine q1.out.mono ?_
      rintro e w1 ⟨rfl, hs1, hg1⟩
      have hbs1 := hown.out.grown_below hg1 (Nat.le_refl _) hwz
      have q2 := hide (compactI_calls hs1 hm9)
      have hw1 : W0.heap.size ≤ w1.heap.size := Nat.le_trans hwz hbs1.size
      replace hs1 := hide hs1
      replace hbs1 := hide hbs1
      clear hg1
      go_wp2_with fail
      refine q2.out.mono ?_
      rintro e w2 ⟨rfl, hs2, hg2⟩
      have hbs2 := hide (hs1.out.grown_below hg2 (Nat.le_refl _) hw1)
      replace hs2 := hide hs2
      clear hg2
      go_wp2_with fail
      go_ret
      exact ⟨_, _, _, rfl, hs2.out.lower (by omega), hW0.out.trans (((hb.out.trans hbs1.out).trans hbs2.out).mono (by omega))⟩

end Go.Proofs.YthlaoedpjloloaaGreatDoor

namespace Go.Proofs.YthlaoedpjloloaaGreatDoor
set_option linter.unusedVariables false
set_option linter.unusedSimpArgs false

def addN (R : List Int) (v : Int) : List Int := if v ∈ R then R else R ++ [v]
def addL (R L : List Int) : List Int := L.foldl addN R
theorem addL_succ {R L : List Int} {k : Nat} {v : Int} (h : L[k]? = some v) : addL R (L.take (k + 1)) = addN (addL R (L.take k)) v := by
  unfold addL
  rw [List.take_add_one, h, List.foldl_append]
  rfl
theorem addN_mem {R : List Int} {v x : Int} : x ∈ addN R v ↔ x ∈ R ∨ x = v := by
  unfold addN
  split
  · constructor
    · exact .inl
    · rintro (h | rfl)
      · exact h
      · assumption
  · simp
theorem addL_mem : ∀ {L R : List Int} {x : Int}, x ∈ addL R L ↔ x ∈ R ∨ x ∈ L
  | [], R, x => by simp [addL]
  | v :: L, R, x => by
    show x ∈ addL (addN R v) L ↔ _
    rw [addL_mem, addN_mem, List.mem_cons]
    constructor
    · rintro ((h | h) | h)
      · exact .inl h
      · exact .inr (.inl h)
      · exact .inr (.inr h)
    · rintro (h | h | h)
      · exact .inl (.inl h)
      · exact .inl (.inr h)
      · exact .inr h

/-- The list begins with S, and what stands behind is in [0, N), each once, and not in S. -/
def Beg (N : Int) (S R : List Int) : Prop := ∃ T, R = S ++ T ∧ T.Nodup ∧ ∀ v ∈ T, v ∉ S ∧ 0 ≤ v ∧ v < N
theorem Beg.refl (N : Int) (S : List Int) : Beg N S S := ⟨[], by simp, List.nodup_nil, fun _ h => by cases h⟩
theorem Beg.add {N : Int} {S R : List Int} (h : Beg N S R) {v : Int} (h0 : 0 ≤ v) (h1 : v < N) : Beg N S (addN R v) := by
  obtain ⟨T, rfl, hn, hv⟩ := h
  unfold addN
  split
  · exact ⟨T, rfl, hn, hv⟩
  · rename_i hnot
    rw [List.mem_append] at hnot
    refine ⟨T ++ [v], by simp, ?_, ?_⟩
    · rw [List.nodup_append]
      exact ⟨hn, by simp, fun a ha b hb => by rw [List.mem_singleton.1 hb]; rintro rfl; exact hnot (.inr ha)⟩
    · intro x hx
      rcases List.mem_append.1 hx with hx | hx
      · exact hv x hx
      · rw [List.mem_singleton.1 hx]
        exact ⟨fun h => hnot (.inl h), h0, h1⟩
theorem Beg.addL {N : Int} {S : List Int} : ∀ {L R : List Int}, Beg N S R → (∀ v ∈ L, 0 ≤ v ∧ v < N) → Beg N S (addL R L)
  | [], R, h, _ => h
  | v :: L, R, h, hv => Beg.addL (L := L) (h.add (hv v (List.mem_cons_self ..)).1 (hv v (List.mem_cons_self ..)).2) fun x hx => hv x (List.mem_cons_of_mem _ hx)
theorem nodup_few_aux : ∀ (n : Nat) (l : List Nat), l.Nodup → (∀ x ∈ l, x < n) → l.length ≤ n
  | 0, l, _, h => by
    cases l with
    | nil => simp
    | cons a l => exact absurd (h a (by simp)) (by omega)
  | n + 1, l, hd, h => by
    have h1 := nodup_few_aux n (l.filter fun x => decide (x ≠ n)) (hd.filter _) (fun x hx => by
      obtain ⟨h2, h3⟩ := List.mem_filter.1 hx
      have := h x h2
      have h4 : x ≠ n := by simpa using h3
      omega)
    have h2 : l.length ≤ (l.filter fun x => decide (x ≠ n)).length + 1 := by
      have h3 : l.length = l.countP (fun x => decide (x ≠ n)) + l.countP (fun x => !(decide (x ≠ n))) := by
        rw [List.length_eq_countP_add_countP (fun x => decide (x ≠ n))]
        congr 1
        apply List.countP_congr
        intro x _
        simp
      have h4 : l.countP (fun x => !(decide (x ≠ n))) ≤ 1 := by
        have h5 : l.countP (fun x => !(decide (x ≠ n))) = l.count n := by
          unfold List.count
          apply List.countP_congr
          intro x _
          simp
        rw [h5]
        exact List.nodup_iff_count.1 hd n
      rw [← List.countP_eq_length_filter]
      omega
    omega
theorem nodup_few {N : Nat} : ∀ {T : List Int}, T.Nodup → (∀ v ∈ T, 0 ≤ v ∧ v < (N : Int)) → T.length ≤ N := by
  intro T hn hv
  have h1 : (T.map Int.toNat).Nodup := by
    rw [List.Nodup, List.pairwise_map]
    refine List.Pairwise.imp_of_mem (fun {a b} ha hb hne => ?_) hn
    have := hv a ha
    have := hv b hb
    omega
  have := nodup_few_aux N (T.map Int.toNat) h1 fun x hx => by
    obtain ⟨v, hvv, rfl⟩ := List.mem_map.1 hx
    have := hv v hvv
    omega
  simpa using this
theorem Beg.len {N : Nat} {S R : List Int} (h : Beg (N : Int) S R) : R.length ≤ S.length + N := by
  obtain ⟨T, rfl, hn, hv⟩ := h
  have := nodup_few hn fun v hx => (hv v hx).2
  rw [List.length_append]
  omega

/-- The search has gone through k states of its list. -/
structure TauI (N : Int) (es : List Ed) (ls : List ByteArray) (S R : List Int) (k : Nat) : Prop where
  beg : Beg N S R
  sound : ∀ v ∈ R, TauC es ls (· ∈ S) v
  closed : ∀ j, j < k → ∀ x, R[j]? = some x → ∀ v ∈ folV es ls tauB [x], v ∈ R
theorem TauI.start (N : Int) (es : List Ed) (ls : List ByteArray) (S : List Int) : TauI N es ls S S 0 :=
  ⟨Beg.refl _ _, fun v hv => .base hv, fun j hj => by omega⟩
theorem addL_get {R L : List Int} {j : Nat} (h : j < R.length) : (addL R L)[j]? = R[j]? := by
  induction L generalizing R with
  | nil => rfl
  | cons v L ih =>
    show (addL (addN R v) L)[j]? = _
    have h2 : j < (addN R v).length := by
      unfold addN
      split
      · exact h
      · rw [List.length_append]; omega
    rw [ih h2]
    unfold addN
    split
    · rfl
    · rw [List.getElem?_append_left h]
theorem addL_len {R L : List Int} : R.length ≤ (addL R L).length := by
  induction L generalizing R with
  | nil => exact Nat.le_refl _
  | cons v L ih =>
    show _ ≤ (addL (addN R v) L).length
    refine Nat.le_trans ?_ ih
    unfold addN
    split
    · exact Nat.le_refl _
    · rw [List.length_append]; omega
theorem TauI.next {N : Int} {es : List Ed} {ls : List ByteArray} {S R : List Int} {k : Nat} {x : Int} (h : TauI N es ls S R k) (hx : R[k]? = some x) (hN : ∀ e ∈ es, 0 ≤ e.2.2 ∧ e.2.2 < N) : TauI N es ls S (addL R (folV es ls tauB [x])) (k + 1) := by
  have hk : k < R.length := (List.getElem?_eq_some_iff.1 hx).1
  refine ⟨h.beg.addL fun v hv => ?_, fun v hv => ?_, fun j hj y hy v hv => ?_⟩
  · obtain ⟨e, he, -, -, rfl⟩ := folV_mem.1 hv
    exact hN e he
  · rcases addL_mem.1 hv with hv | hv
    · exact h.sound v hv
    · obtain ⟨e, he, h1, h2, rfl⟩ := folV_mem.1 hv
      refine .step ?_ he h2
      rw [List.mem_singleton.1 h1]
      exact h.sound x (List.mem_of_getElem? hx)
  · rw [addL_get (by omega)] at hy
    rcases Nat.lt_or_ge j k with h1 | h1
    · exact addL_mem.2 (.inl (h.closed j h1 y hy v hv))
    · have : j = k := by omega
      subst this
      rw [hx] at hy
      cases hy
      exact addL_mem.2 (.inr hv)
theorem TauI.done {N : Int} {es : List Ed} {ls : List ByteArray} {S R : List Int} {k : Nat} (h : TauI N es ls S R k) (hk : R.length ≤ k) {v : Int} : v ∈ R ↔ TauC es ls (· ∈ S) v := by
  refine ⟨h.sound v, fun hv => ?_⟩
  induction hv with
  | base hv =>
    obtain ⟨T, rfl, -⟩ := h.beg
    exact List.mem_append.2 (.inl hv)
  | step _ he hl ih =>
    obtain ⟨j, hj, e⟩ := List.mem_iff_getElem.1 ih
    exact h.closed j (by omega) _ (List.getElem?_eq_some_iff.2 ⟨hj, e⟩) _ (folV_mem.2 ⟨_, he, List.mem_singleton.2 rfl, hl, rfl⟩)

end Go.Proofs.YthlaoedpjloloaaGreatDoor

namespace Go.Proofs.YthlaoedpjloloaaGreatDoor
open Go.ChangeShapes Go.WideShapes Go.ChangeAt Go.RowKit
set_option linter.unusedVariables false

theorem alloc_some {w : World} {o : Obj} {a : Addr} {v : Value} (h : w.cell? a = some v) : (w.alloc o).cell? a = some v := (World.cell?_alloc_some w a o (by rw [h]; rfl)).trans h
/-- A grown list, begun before some other blocks were made. -/
structure OwnC {α : Type} (size : Nat) (f : α → List Value) (t : TypeId) (w1 : World) (BB : Nat) (w : World) (A : Option Addr) (m c : Nat) (l : List α) : Prop where
  own : Own size f w BB t A m c l
  at_ : ∀ g, (Value.slice A m c).ownBlock = some g → g = BB ∨ w1.heap.size ≤ g
  only : Only BB (BB + 1) w1 w
theorem OwnC.below {α : Type} {size : Nat} {f : α → List Value} {t : TypeId} {w1 w w' : World} {BB m c : Nat} {A : Option Addr} {l : List α} (h : OwnC size f t w1 BB w A m c l) (hb : Below w.heap.size w w') : OwnC size f t w1 BB w' A m c l :=
  ⟨h.own.below hb (Nat.le_refl _), h.at_, ⟨hb.os.trans h.only.os, hb.tape.trans h.only.tape, hb.output.trans h.only.output, Nat.le_trans h.only.size hb.size, fun b hb' ho => (hb.block b (Nat.lt_of_lt_of_le hb' h.only.size)).trans (h.only.block b hb' ho)⟩⟩
theorem OwnC.app {α : Type} {size : Nat} {f : α → List Value} {t : TypeId} {w1 w w' : World} {BB m c m' c' : Nat} {A A' : Option Addr} {l l' : List α} (h : OwnC size f t w1 BB w A m c l) (ho : Own size f w' BB t A' m' c' l') (hg : w.grownBy w' (Value.slice A m c).ownBlock)
    (ha : (Value.slice A' m' c').ownBlock = (Value.slice A m c).ownBlock ∨ (Value.slice A' m' c').ownBlock = some w.heap.size) : OwnC size f t w1 BB w' A' m' c' l' := by
  refine ⟨ho, fun g hg' => ?_, ⟨hg.os.trans h.only.os, hg.tape.trans h.only.tape, hg.output.trans h.only.output, Nat.le_trans h.only.size hg.size, fun b hb' hb2 => (hg.block b (Nat.lt_of_lt_of_le hb' h.only.size) fun e => ?_).trans (h.only.block b hb' hb2)⟩⟩
  · rcases ha with ha | ha
    · exact h.at_ g (by rw [← ha]; exact hg')
    · rw [ha] at hg'
      injection hg' with e
      have := h.only.size
      omega
  · have := h.at_ b e.symm
    omega

end Go.Proofs.YthlaoedpjloloaaGreatDoor

namespace Go.Proofs.YthlaoedpjloloaaGreatDoor
open Go.ChangeShapes Go.WideShapes Go.ChangeAt Go.RowKit Go.Sort
set_option linter.unusedVariables false
set_option linter.unusedSimpArgs false

theorem cloneT_calls (A : Option Addr) (n c : Nat) (l : List Int) (w : World) (lo hi : Nat) (h : SlI w lo hi A n l) (hn : n ≤ 1048576) :
    Calls Tryz.prog 183 #[.slice A n c] w fun e w' => ∃ A' c', e = .returned (.slice A' n c') ∧ Own 1 iv w' w.heap.size 2 A' n c' l ∧ Below w.heap.size w w' := by
  have hnil : ∀ (W : World) (a : Option Addr) (m d : Nat), (binOp .eql 37 (.slice a m d) (.slice none 0 0)).run Tryz.prog W = .ok (.bool a.isNone) W := fun W a m d => Lib.run_eql_slice_nil W 37 _ a m d 0 0 Tryz.underlying37
  have hE := hide elem_int
  cases A with
  | none =>
    have hn0 : n = 0 := by
      rcases Nat.eq_zero_or_pos n with h0 | h0
      · exact h0
      · obtain ⟨b, off, e, _⟩ := h.at_ h0
        cases e
    subst hn0
    have hl := List.eq_nil_of_length_eq_zero h.len
    subst hl
    go_enter Tryz.func183, Tryz.ntmps183
    go_wp2_with fail
    go_ret
    exact ⟨none, 0, rfl, Own.nil_ _ _ _, Below.refl _ _⟩
  | some a =>
    have hs := hide (h.below ((Below.refl w.heap.size w).alloc (Nat.le_refl _) (.cells #[] 2)) (.inr (Nat.le_refl _)))
    have hz : w.heap.size ≤ (w.alloc (.cells #[] 2)).heap.size := by simp
    clear h
    go_enter Tryz.func183, Tryz.ntmps183
    go_wp2_with (first | (at_builtin; (with_reducible refine wpList_app rfl (.tmp 5) (.tmp 6) rfl hE.out flat_iv rfl (Own.made w 2 (Nat.le_refl _)) rfl hs.out ?c1 hz ?_); rotate_right; intro A2 c2 w2 hown2 hgr2 hb2 _))
    case c1 => omega
    go_ret
    rw [Nat.zero_add, List.nil_append] at hown2
    exact ⟨_, _, rfl, hown2, ((Below.refl _ _).alloc (Nat.le_refl _) _).trans hb2⟩

theorem Own.toC {α : Type} {size : Nat} {f : α → List Value} {w : World} {base n c : Nat} {e : TypeId} {A : Option Addr} {l : List α} (h : Own size f w base e A n c l) (hb : base ≤ w.heap.size) :
    ∃ BB, base ≤ BB ∧ BB ≤ w.heap.size ∧ Own size f w BB e A n c l ∧ ∀ g, (Value.slice A n c).ownBlock = some g → g = BB := by
  rcases h.2.2 with ⟨hv, hn⟩ | ⟨g, cap, cur, hv, hbg, hg, rest⟩
  · cases hv
    exact ⟨base, Nat.le_refl _, hb, h, fun g hg => by cases hg⟩
  · cases hv
    have hlt : g < w.heap.size := (Array.getElem?_eq_some_iff.1 hg).1
    exact ⟨g, hbg, by omega, ⟨h.1, h.2.1, .inr ⟨g, c, cur, rfl, Nat.le_refl _, hg, rest⟩⟩, fun g' hg' => by injection hg' with e; exact e.symm⟩

set_option maxRecDepth 100000 in
set_option maxHeartbeats 3200000 in
theorem internal_calls (s0 s1 : Int) (A2 : Option Addr) (n2 k2 : Nat) (A3 : Option Addr) (n3 k3 : Nat) (A1 : Option Addr) (n1 c1 : Nat) (S : List Int) (ls : List ByteArray) (es : List Ed) (w : World) (lo hi lo1 hi1 : Nat)
    (t2 : SlS w lo hi A2 n2 ls) (t3 : SlE w lo hi A3 n3 es) (t1 : SlI w lo1 hi1 A1 n1 S) (hS : n1 ≤ 1000000) (hes : n3 ≤ 1048576) (hval : ltsV (s0, s1, ls, es) = true) :
    Calls Tryz.prog 153 #[.agg #[.int .i64 s0, .int .i64 s1, .slice A2 n2 k2, .slice A3 n3 k3], .slice A1 n1 c1] w fun e w' => ∃ A n c R, e = .returned (.slice A n c) ∧ SlI w' w.heap.size w'.heap.size A n R ∧ (∀ v, v ∈ R ↔ TauC es ls (· ∈ S) v) ∧ n ≤ n1 + 40 ∧ Below w.heap.size w w' := by
  have l1 := t1.len
  have he3 : es.length ≤ 300 := by
    have := hval
    rw [ltsV_eq] at this
    simp only [Bool.and_eq_true] at this
    exact of_decide_eq_true this.1.2.2.2
  have hst : s0 ≤ 40 ∧ 1 ≤ s0 := by
    have := hval
    rw [ltsV_eq] at this
    simp only [Bool.and_eq_true] at this
    have h1 := this.1.1
    unfold inB at h1
    rw [Bool.and_eq_true] at h1
    exact ⟨of_decide_eq_true h1.2, of_decide_eq_true h1.1⟩
  obtain ⟨N, rfl⟩ : ∃ N : Nat, s0 = (N : Int) := ⟨s0.toNat, by omega⟩
  have hN40 : N ≤ 40 := by omega
  have hto : ∀ e ∈ es, 0 ≤ e.2.2 ∧ e.2.2 < (N : Int) := by
    intro e he
    obtain ⟨k, hk, hx⟩ := List.mem_iff_getElem.1 he
    have := (edge_of hval (k := k) (f := e.1) (lb := e.2.1) (tg := e.2.2) (List.getElem?_eq_some_iff.2 ⟨hk, hx⟩)).2.1
    omega
  have hlts := hide hval
  have l3 := hide t3.len
  have hW0 := hide (show Below w.heap.size w (w.alloc (.cells #[.int .i64 (N : Int), .int .i64 s1, .slice A2 n2 k2, .slice A3 n3 k3] 31)) from (Below.refl _ _).alloc (Nat.le_refl _) _)
  have kE := heap_alloc_new w (.cells #[.int .i64 (N : Int), .int .i64 s1, .slice A2 n2 k2, .slice A3 n3 k3] 31)
  have hbt : w.heap.size < (w.alloc (.cells #[.int .i64 (N : Int), .int .i64 s1, .slice A2 n2 k2, .slice A3 n3 k3] 31)).heap.size := by rw [World.size_alloc]; omega
  have hE := hide elem_int
  have q0 := hide (cloneT_calls A1 n1 c1 S _ lo1 hi1 (t1.below hW0.out (.inr (Nat.le_refl _))) (by omega))
  replace t1 := hide t1
  replace t2 := hide t2
  replace t3 := hide t3
  replace hto := hide hto
  clear hval hst
  go_enter Tryz.func153, Tryz.ntmps153
  go_upto_region 1 with fail
  have x0 : (w.alloc (.cells #[.int .i64 (N : Int), .int .i64 s1, .slice A2 n2 k2, .slice A3 n3 k3] 31)).cell? ⟨w.heap.size, 0, none⟩ = some (.int .i64 (N : Int)) := (cell_of_row _ _ 0 _ _ (0, 0) kE).trans rfl
  have x1 : (w.alloc (.cells #[.int .i64 (N : Int), .int .i64 s1, .slice A2 n2 k2, .slice A3 n3 k3] 31)).cell? ⟨w.heap.size, 1, none⟩ = some (.int .i64 s1) := (cell_of_row _ _ 1 _ _ (0, 0) kE).trans rfl
  have x2 : (w.alloc (.cells #[.int .i64 (N : Int), .int .i64 s1, .slice A2 n2 k2, .slice A3 n3 k3] 31)).cell? ⟨w.heap.size, 2, none⟩ = some (.slice A2 n2 k2) := (cell_of_row _ _ 2 _ _ (0, 0) kE).trans rfl
  have x3 : (w.alloc (.cells #[.int .i64 (N : Int), .int .i64 s1, .slice A2 n2 k2, .slice A3 n3 k3] 31)).cell? ⟨w.heap.size, 3, none⟩ = some (.slice A3 n3 k3) := (cell_of_row _ _ 3 _ _ (0, 0) kE).trans rfl
  clear kE
  generalize hWW : (w.alloc (.cells #[.int .i64 (N : Int), .int .i64 s1, .slice A2 n2 k2, .slice A3 n3 k3] 31)) = W0 at *
  clear hWW
  have hbt1 : w.heap.size + 1 ≤ W0.heap.size := hbt
  go_upto_region 3 with (first | (go_at_call 183; (with_reducible refine q0.out.mono ?_); rintro e wx ⟨A0, c0, rfl, hown0, hb0⟩))
  have hB0 := hb0.size
  replace hown0 := hide hown0
  go_loopg [5, 6] (n1 + 40) (fun G o i wr => ∃ k m c A R, k ≤ m ∧ o = .slice A m c ∧ i = .int .i64 (k : Nat) ∧ Hid (Own 1 iv wr W0.heap.size 2 A m c R) ∧ Hid (TauI (N : Int) es ls S R k) ∧ Hid (n1 + 40 ≤ G + k) ∧ Below W0.heap.size W0 wr)
  case atStart => exact ⟨0, n1, c0, A0, S, Nat.zero_le _, rfl, rfl, hown0, TauI.start _ _ _ _, Nat.le_refl _, hb0⟩
  case round =>
    clear hown0 hb0 hB0
    obtain ⟨k, m, c, A, R, hk, rfl, rfl, hown, hI, hG, hb⟩ := hrel
    have hz := hb.size
    have hml := hown.out.len
    have hmx := hI.out.beg.len
    rw [hml, l1] at hmx
    by_cases hlt : k < m
    · obtain ⟨G3, rfl⟩ : ∃ G3, gk = G3 + 1 := ⟨gk - 1, by have := hG.out; omega⟩
      have hG3 : Hid (n1 + 40 ≤ G3 + (k + 1)) := by have := hG.out; show _ ≤ _; omega
      obtain ⟨b, off, x, rfl, -, -, gb, hx, px, -⟩ := SlI.get (hown.out.sl flat_iv) hlt
      have hwb := hW0.out.trans (hb.mono (by omega))
      have y0 := (hb.cell (p := ⟨w.heap.size, 0, none⟩) hbt).trans x0
      have y1 := (hb.cell (p := ⟨w.heap.size, 1, none⟩) hbt).trans x1
      have y2 := (hb.cell (p := ⟨w.heap.size, 2, none⟩) hbt).trans x2
      have y3 := (hb.cell (p := ⟨w.heap.size, 3, none⟩) hbt).trans x3
      have hA : Below wr.heap.size wr (wr.alloc (.cells #[.int .i64 x] 2)).drew := ((Below.refl _ _).alloc (Nat.le_refl _) (.cells #[.int .i64 x] 2)).drew
      have hsz : (wr.alloc (.cells #[.int .i64 x] 2)).drew.heap.size = wr.heap.size + 1 := by show (wr.alloc _).heap.size = _; rw [World.size_alloc]
      have hwA := hwb.trans (hA.mono hwb.size)
      have qf := followS_calls (N : Int) s1 A2 n2 k2 A3 n3 k3 (some ⟨wr.heap.size, 0, none⟩) 1 1 [x] tauB ls es (wr.alloc (.cells #[.int .i64 x] 2)).drew lo hi 0 (wr.heap.size + 1) (t2.out.below hwA (.inr (Nat.le_refl _))) (t3.out.below hwA (.inr (Nat.le_refl _))) ((Sl.lit1' wr 2 x _ rfl 1 _ rfl).drew) (by omega) hes hlts.out
      rw [show tauB = (⟨#[116, 97, 117]⟩ : ByteArray) from rfl] at qf
      replace qf := hide qf
      have hI0 : (0 : Int) ≤ (k : Int) := by omega
      have hI1 : (k : Int) < (m : Int) := by omega
      obtain ⟨BB, hB1, hB2, hownB, hgB⟩ := hown.out.toC hz
      have hg9 : w.heap.size < (wr.alloc (.cells #[.int .i64 x] 2)).drew.heap.size := by rw [hsz]; omega
      have hg8 : b < (wr.alloc (.cells #[.int .i64 x] 2)).drew.heap.size := by rw [hsz]; omega
      have hnx := hI.out.next hx hto.out
      have ya0 : (wr.alloc (.cells #[.int .i64 x] 2)).drew.cell? ⟨w.heap.size, 0, none⟩ = some (.int .i64 (N : Int)) := alloc_some y0
      have ya1 : (wr.alloc (.cells #[.int .i64 x] 2)).drew.cell? ⟨w.heap.size, 1, none⟩ = some (.int .i64 s1) := alloc_some y1
      have ya2 : (wr.alloc (.cells #[.int .i64 x] 2)).drew.cell? ⟨w.heap.size, 2, none⟩ = some (.slice A2 n2 k2) := alloc_some y2
      have ya3 : (wr.alloc (.cells #[.int .i64 x] 2)).drew.cell? ⟨w.heap.size, 3, none⟩ = some (.slice A3 n3 k3) := alloc_some y3
      have pa : (wr.alloc (.cells #[.int .i64 x] 2)).drew.cell? ⟨b, off + k, none⟩ = some (.int .i64 x) := alloc_some px
      replace hnx := hide hnx
      replace hownB := hide hownB
      replace hgB := hide hgB
      replace hA := hide hA
      replace hwb := hide hwb
      replace hb := hide hb
      replace hsz := hide hsz
      clear hx hwA hown hI
      go_upto_region 5 with fail
      go_region_held3 (fun w' => w'.cell? ⟨w.heap.size, 0, none⟩ = some (.int .i64 (N : Int)) ∧ w'.cell? ⟨w.heap.size, 1, none⟩ = some (.int .i64 s1) ∧ w'.cell? ⟨w.heap.size, 2, none⟩ = some (.slice A2 n2 k2) ∧ w'.cell? ⟨w.heap.size, 3, none⟩ = some (.slice A3 n3 k3) ∧ w'.cell? ⟨b, off + k, none⟩ = some (.int .i64 x)) (first | exact ⟨y0, y1, y2, y3, px⟩ | exact ⟨z0, z1, z2, z3, pz⟩ | go_keep)
        (first | (go_at_call 118; (with_reducible refine qf.out.mono ?_); rintro e w5 ⟨Af, nf, cf, rfl, hof, hb5⟩; have z0 := (hb5.cell (p := ⟨w.heap.size, 0, none⟩) hg9).trans ya0; have z1 := (hb5.cell (p := ⟨w.heap.size, 1, none⟩) hg9).trans ya1; have z2 := (hb5.cell (p := ⟨w.heap.size, 2, none⟩) hg9).trans ya2; have z3 := (hb5.cell (p := ⟨w.heap.size, 3, none⟩) hg9).trans ya3; have pz := (hb5.cell (p := ⟨b, off + k, none⟩) hg8).trans pa; replace hof := hide hof; replace hb5 := hide hb5))
      have hb5w : Below wr.heap.size wr w5 := hA.out.trans (hb5.out.mono (by rw [hsz.out]; omega))
      have hC : Hid (OwnC 1 iv 2 w5 BB w5 (some ⟨b, off, none⟩) m c R) := ⟨hownB.out.below hb5w (Nat.le_refl _), fun g hg => .inl (hgB.out g hg), Only.refl _ _ _⟩
      have hfs := hide (hof.out.sl flat_iv)
      have hfl := hof.out.len
      have hfl2 := folV_len es ls tauB [x]
      have hnf : nf ≤ 300 := by rw [show folV es ls ⟨#[116, 97, 117]⟩ [x] = folV es ls tauB [x] from rfl] at hfl; have := l3.out; omega
      have hfa : (folV es ls tauB [x]).take nf = folV es ls tauB [x] := List.take_of_length_le (by rw [show folV es ls ⟨#[116, 97, 117]⟩ [x] = folV es ls tauB [x] from rfl] at hfl; omega)
      replace hfs : Hid (SlI w5 (wr.heap.size + 1) w5.heap.size Af nf (folV es ls tauB [x])) := by have := hfs.out; rw [hsz.out] at this; exact this
      have hw5 := hb5w.size
      have hbW : Below W0.heap.size W0 w5 := hb.out.trans (hb5w.mono hz)
      replace hnx := hnx.out
      generalize folV es ls tauB [x] = F at *
      replace hnx := hide hnx
      replace hfa := hide hfa
      replace hbW := hide hbW
      replace hb5w := hide hb5w
      have k0 := hide z0
      have k1 := hide z1
      have k2 := hide z2
      have k3 := hide z3
      clear hfl hfl2 hof hb5 hA hownB hgB y0 y1 y2 y3 ya0 ya1 ya2 ya3 pa px pz z0 z1 z2 z3 hg9 hg8 qf hsz
      obtain ⟨wo, rfl⟩ : ∃ wo : World, wo = wr := ⟨_, rfl⟩
      go_upto_region 6 with fail
      go_loopg [5, 25] nf (fun G o i wr => ∃ j m2 c2 A4 R2, j ≤ nf ∧ m2 ≤ m + j ∧ o = .slice A4 m2 c2 ∧ i = .int .i64 (j : Nat) ∧ Hid (OwnC 1 iv 2 w5 BB wr A4 m2 c2 R2) ∧ Hid (R2 = addL R (F.take j)) ∧ Hid (nf ≤ G + j))
      case atStart => exact ⟨0, m, c, _, R, Nat.zero_le _, by omega, rfl, rfl, hC, rfl, by show _ ≤ _; omega⟩
      case round =>
        clear hC
        obtain ⟨j, m2, c2, A4, R2, hj, hm2, rfl, rfl, hC, hR2, hG2⟩ := hrel
        have hzz := hC.out.only.size
        by_cases hlt2 : j < nf
        · obtain ⟨G4, rfl⟩ : ∃ G4, gk = G4 + 1 := ⟨gk - 1, by have := hG2.out; omega⟩
          have hG4 : Hid (nf ≤ G4 + (j + 1)) := by have := hG2.out; show _ ≤ _; omega
          obtain ⟨bf, of_, v, rfl, -, -, gf, hv, pv, -⟩ := SlI.get (Sl.only hfs.out hC.out.only (.inr (by omega))) hlt2
          have qc := hide (containsI_calls v A4 m2 c2 R2 wr _ _ (hC.out.own.sl flat_iv) (by omega))
          have hsu := addL_succ (R := R) hv
          rw [← hR2.out] at hsu
          have hJ0 : (0 : Int) ≤ (j : Int) := by omega
          have hJ1 : (j : Int) < (nf : Int) := by omega
          replace hR2 := hide hR2
          clear hv
          by_cases hin : v ∈ R2
          · have hany : R2.any (fun x => decide (x = v)) = true := List.any_eq_true.2 ⟨v, hin, decide_eq_true rfl⟩
            rw [hany] at qc
            rw [addN, if_pos hin] at hsu
            replace hsu := hide hsu
            clear hany hin hR2
            go_wp2_with (first
              | (go_at_call 131; (with_reducible refine qc.out.mono ?_); rintro e w' ⟨rfl, rfl⟩))
            go_roundg G4
            case measure => omega
            case rel => exact ⟨j + 1, m2, c2, A4, R2, by omega, by omega, rfl, by go_num, hC, hsu.out.symm, hG4⟩
          · have hany : R2.any (fun x => decide (x = v)) = false := by
              cases h : R2.any (fun x => decide (x = v)) with
              | false => rfl
              | true =>
                obtain ⟨y, hy, e⟩ := List.any_eq_true.1 h
                rw [of_decide_eq_true e] at hy
                exact (hin hy).elim
            rw [hany] at qc
            rw [addN, if_neg hin] at hsu
            replace hsu := hide hsu
            have hownA := hC.out.below ((Below.refl _ _).alloc (Nat.le_refl _) (.cells #[.int .i64 v] 2))
            have hza : BB ≤ (wr.alloc (.cells #[.int .i64 v] 2)).heap.size := by rw [World.size_alloc]; omega
            replace hownA := hide hownA
            clear hany hin hR2 hC
            go_wp2_with (first
              | (go_at_call 131; (with_reducible refine qc.out.mono ?_); rintro e w' ⟨rfl, rfl⟩)
              | (at_builtin; (with_reducible refine wpList_app rfl (.tmp 33) (.tmp 35) rfl hE.out flat_iv rfl hownA.out.own rfl (Sl.lit1' wr 2 v _ rfl 1 _ ?c0) ?c1 hza ?_); rotate_right; intro A7 c7 w7 hown7 hgr7 hb7 hat7))
            case c0 => rfl
            case c1 => omega
            have hown8 := hide (hownA.out.app hown7 hgr7 hat7)
            clear hown7 hgr7 hb7 hat7 hownA
            go_roundg G4
            case measure => omega
            case rel => exact ⟨j + 1, m2 + 1, c7, A7, R2 ++ [v], by omega, by omega, rfl, by go_num, hown8, hsu.out.symm, hG4⟩
        · have hjn : j = nf := by omega
          subst hjn
          have hR3 : R2 = addL R F := by have := hR2.out; rwa [hfa.out] at this
          subst hR3
          have hbN := Only.below hbW.out hC.out.only hB1 (Nat.le_trans hz hw5)
          have hownN := hide (hC.out.own.lower hB1)
          have hlenN := hnx.out.beg.len
          have hkm : k + 1 ≤ m2 := by have h1 := hownN.out.len; have h2 := addL_len (R := R) (L := F); omega
          clear hC hR2
          go_wp2_with fail
          go_roundg G3
          case measure => omega
          case rel => exact ⟨k + 1, m2, c2, A4, addL R F, hkm, rfl, by go_num, hownN, hnx, hG3, hbN⟩
    · have hkm : k = m := by omega
      subst hkm
      have q1 := hide (sortI_calls hown.out (by omega))
      have hdone : ∀ v, v ∈ R ↔ TauC es ls (· ∈ S) v := fun v => hI.out.done (by omega)
      have hwz := hz
      replace hb := hide hb
      go_wp2_with fail
      refine q1.out.mono ?_
      rintro e w1 ⟨rfl, hs1, hg1⟩
      have hbs1 := hide (hown.out.grown_below hg1 (Nat.le_refl _) hwz)
      have hsl := hide (hs1.sl flat_iv)
      clear hs1 hg1
      go_wp2_with fail
      go_ret
      exact ⟨_, _, _, _, rfl, hsl.out.more (by omega) (Nat.le_refl _), fun v => sortI_mem.trans (hdone v), by omega, hW0.out.trans ((hb.out.trans hbs1.out).mono (by omega))⟩

end Go.Proofs.YthlaoedpjloloaaGreatDoor

namespace Go.Proofs.YthlaoedpjloloaaGreatDoor
open Go.ChangeShapes Go.WideShapes Go.ChangeAt Go.RowKit Go.Sort
set_option linter.unusedVariables false
set_option linter.unusedSimpArgs false

set_option maxRecDepth 100000 in
set_option maxHeartbeats 3200000 in
theorem visible_calls (s0 s1 : Int) (A2 : Option Addr) (n2 k2 : Nat) (A3 : Option Addr) (n3 k3 : Nat) (A1 : Option Addr) (n1 c1 : Nat) (S : List Int) (lab : ByteArray) (ls : List ByteArray) (es : List Ed) (w : World) (lo hi lo1 hi1 : Nat)
    (t2 : SlS w lo hi A2 n2 ls) (t3 : SlE w lo hi A3 n3 es) (t1 : SlI w lo1 hi1 A1 n1 S) (hS : n1 ≤ 1000000) (hes : n3 ≤ 1048576) (hval : ltsV (s0, s1, ls, es) = true) :
    Calls Tryz.prog 154 #[.agg #[.int .i64 s0, .int .i64 s1, .slice A2 n2 k2, .slice A3 n3 k3], .slice A1 n1 c1, .string lab] w fun e w' => ∃ A n c R, e = .returned (.slice A n c) ∧ SlI w' w.heap.size w'.heap.size A n R ∧ (∀ v, v ∈ R ↔ VisC es ls (· ∈ S) lab v) ∧ n ≤ 340 ∧ Below w.heap.size w w' := by
  have l3 := t3.len
  have he3 : es.length ≤ 300 := by
    have := hval
    rw [ltsV_eq] at this
    simp only [Bool.and_eq_true] at this
    exact of_decide_eq_true this.1.2.2.2
  have hW0 : Below w.heap.size w (w.alloc (.cells #[.int .i64 s0, .int .i64 s1, .slice A2 n2 k2, .slice A3 n3 k3] 31)).drew := ((Below.refl _ _).alloc (Nat.le_refl _) _).drew
  have kE := heap_alloc_new w (.cells #[.int .i64 s0, .int .i64 s1, .slice A2 n2 k2, .slice A3 n3 k3] 31)
  have x0 : (w.alloc (.cells #[.int .i64 s0, .int .i64 s1, .slice A2 n2 k2, .slice A3 n3 k3] 31)).cell? ⟨w.heap.size, 0, none⟩ = some (.int .i64 s0) := (cell_of_row _ _ 0 _ _ (0, 0) kE).trans rfl
  have x1 : (w.alloc (.cells #[.int .i64 s0, .int .i64 s1, .slice A2 n2 k2, .slice A3 n3 k3] 31)).cell? ⟨w.heap.size, 1, none⟩ = some (.int .i64 s1) := (cell_of_row _ _ 1 _ _ (0, 0) kE).trans rfl
  have x2 : (w.alloc (.cells #[.int .i64 s0, .int .i64 s1, .slice A2 n2 k2, .slice A3 n3 k3] 31)).cell? ⟨w.heap.size, 2, none⟩ = some (.slice A2 n2 k2) := (cell_of_row _ _ 2 _ _ (0, 0) kE).trans rfl
  have x3 : (w.alloc (.cells #[.int .i64 s0, .int .i64 s1, .slice A2 n2 k2, .slice A3 n3 k3] 31)).cell? ⟨w.heap.size, 3, none⟩ = some (.slice A3 n3 k3) := (cell_of_row _ _ 3 _ _ (0, 0) kE).trans rfl
  clear kE
  have hbt : w.heap.size < (w.alloc (.cells #[.int .i64 s0, .int .i64 s1, .slice A2 n2 k2, .slice A3 n3 k3] 31)).drew.heap.size := by show _ < (w.alloc _).heap.size; rw [World.size_alloc]; omega
  have hbt2 := hW0.size
  have t2' := t2.below hW0 (.inr (Nat.le_refl _))
  have t3' := t3.below hW0 (.inr (Nat.le_refl _))
  have q1 := hide (followS_calls s0 s1 A2 n2 k2 A3 n3 k3 A1 n1 c1 S lab ls es _ lo hi lo1 hi1 t2' t3' (t1.below hW0 (.inr (Nat.le_refl _))) (by omega) hes hval)
  have q2 := hide fun (A : Option Addr) (n c : Nat) (W : World) (lo5 hi5 : Nat) (hb : Below (w.alloc (.cells #[.int .i64 s0, .int .i64 s1, .slice A2 n2 k2, .slice A3 n3 k3] 31)).drew.heap.size (w.alloc (.cells #[.int .i64 s0, .int .i64 s1, .slice A2 n2 k2, .slice A3 n3 k3] 31)).drew W) (h : SlI W lo5 hi5 A n (folV es ls lab S)) => internal_calls s0 s1 A2 n2 k2 A3 n3 k3 A n c _ ls es W lo hi lo5 hi5 (t2'.below hb (.inr (Nat.le_refl _))) (t3'.below hb (.inr (Nat.le_refl _))) h (by have h1 := h.len; have h2 := folV_len es ls lab S; omega) hes hval
  have hvm : Hid (∀ v, TauC es ls (· ∈ folV es ls lab S) v ↔ VisC es ls (· ∈ S) lab v) := fun v => TauC.congr (fun u => folV_mem) v
  have hfl := hide (folV_len es ls lab S)
  replace hW0 := hide hW0
  replace he3 := hide he3
  clear t1 t2 t3 t2' t3' l3 hval
  go_enter Tryz.func154, Tryz.ntmps154
  go_upto_region 1 with fail
  go_region_held3 (fun w' => w'.cell? ⟨w.heap.size, 0, none⟩ = some (.int .i64 s0) ∧ w'.cell? ⟨w.heap.size, 1, none⟩ = some (.int .i64 s1) ∧ w'.cell? ⟨w.heap.size, 2, none⟩ = some (.slice A2 n2 k2) ∧ w'.cell? ⟨w.heap.size, 3, none⟩ = some (.slice A3 n3 k3)) (first | exact ⟨x0, x1, x2, x3⟩ | exact ⟨z0, z1, z2, z3⟩ | exact ⟨v0, v1, v2, v3⟩ | go_keep)
    (first
      | (go_at_call 118; (with_reducible refine q1.out.mono ?_); rintro e w5 ⟨Af, nf, cf, rfl, hof, hb5⟩; have z0 := (hb5.cell (p := ⟨w.heap.size, 0, none⟩) hbt).trans x0; have z1 := (hb5.cell (p := ⟨w.heap.size, 1, none⟩) hbt).trans x1; have z2 := (hb5.cell (p := ⟨w.heap.size, 2, none⟩) hbt).trans x2; have z3 := (hb5.cell (p := ⟨w.heap.size, 3, none⟩) hbt).trans x3; have hnf := hof.len; have hz5 := hb5.size; have q3 := hide (q2.out Af nf cf w5 _ _ hb5 (hof.sl flat_iv)); replace hof := hide hof; replace hb5 := hide hb5)
      | (go_at_call 153; (with_reducible refine q3.out.mono ?_); rintro e w6 ⟨Ai, ni, ci, Ri, rfl, hsi, hmi, hni, hb6⟩; have v0 := (hb6.cell (p := ⟨w.heap.size, 0, none⟩) (Nat.lt_of_lt_of_le hbt hz5)).trans z0; have v1 := (hb6.cell (p := ⟨w.heap.size, 1, none⟩) (Nat.lt_of_lt_of_le hbt hz5)).trans z1; have v2 := (hb6.cell (p := ⟨w.heap.size, 2, none⟩) (Nat.lt_of_lt_of_le hbt hz5)).trans z2; have v3 := (hb6.cell (p := ⟨w.heap.size, 3, none⟩) (Nat.lt_of_lt_of_le hbt hz5)).trans z3; replace hsi := hide hsi; replace hmi := hide hmi; replace hb6 := hide hb6))
  go_wp2_with fail
  go_ret
  exact ⟨Ai, ni, ci, Ri, rfl, hsi.out.more (by omega) (Nat.le_refl _), fun v => (hmi.out v).trans (hvm.out v), by have := hfl.out; have := he3.out; omega, hW0.out.trans ((hb5.out.mono hbt2).trans (hb6.out.mono (by omega)))⟩

end Go.Proofs.YthlaoedpjloloaaGreatDoor

namespace Go.Proofs.YthlaoedpjloloaaGreatDoor
open Go.ChangeShapes Go.WideShapes Go.ChangeAt Go.RowKit
open Go.Maps (Keyed)
set_option linter.unusedVariables false

def pairV (q : Int × Int) : Value := .agg #[.int .i64 q.1, .int .i64 q.2]
def fitP (q : Int × Int) : Prop := (Lit.int .i64 q.1).wf = true ∧ (Lit.int .i64 q.2).wf = true
theorem fit_of {a b : Int} (h1 : 0 ≤ a) (h2 : a ≤ 1048576) (h3 : 0 ≤ b) (h4 : b ≤ 1048576) : fitP (a, b) :=
  ⟨WalkArith.wf_i64 (by omega), WalkArith.wf_i64 (by omega)⟩
theorem laidP : laidOutB Tryz.prog = true := by kernel_rfl
set_option maxRecDepth 100000 in
theorem arrP : Go.WideMaps.ArrKey Tryz.prog 107 2 2 := ⟨Tryz.underlying107, by kernel_rfl, by kernel_rfl, by kernel_rfl⟩
theorem typesP : ∃ m, Tryz.prog.types.size = m + 1 := ⟨Tryz.prog.types.size - 1, by have : 0 < Tryz.prog.types.size := of_decide_eq_true (by kernel_rfl); omega⟩
set_option maxRecDepth 100000 in
theorem keyedP : Keyed Tryz.prog 107 := Keyed.of_law (Go.deep_law_laid laidP (m := 2) (by omega) (of_decide_eq_true (by kernel_rfl)) (by kernel_rfl) (by rw [Tryz.underlying107]))
theorem keyP {q : Int × Int} (h : fitP q) : ∃ l, keyOf Tryz.prog 107 (pairV q) = some l := ⟨_, Go.WideMaps.keyOf_pair arrP Tryz.underlying2 typesP h.1 h.2⟩
theorem pairV_inj {a b : Int × Int} (h : pairV a = pairV b) : a = b := by
  unfold pairV at h
  injection h with h
  injection h with h
  injection h with h1 h2
  injection h2 with h2 _
  injection h1 with _ h1
  injection h2 with _ h2
  exact Prod.ext h1 h2

end Go.Proofs.YthlaoedpjloloaaGreatDoor

namespace Go.Proofs.YthlaoedpjloloaaGreatDoor
open Go.ChangeShapes Go.WideShapes Go.ChangeAt Go.RowKit
open Go.Maps (Keyed)
set_option linter.unusedVariables false

abbrev PQ2 := Int × Int
def KL (q : PQ2) (l : Lit) : Prop := keyOf Tryz.prog 107 (pairV q) = some l
theorem KL.inj {a b : PQ2} {l : Lit} (h : KL a l) (g : KL b l) : a = b := pairV_inj (keyedP.inj h g)
theorem zeroB (w : World) : (zeroValue 4).run Tryz.prog w = .ok (.bool false) w := by kernel_rfl
noncomputable abbrev RB : Value → Option (DataW Unit × List MemPlace) := plainElem Tryz.prog 4
set_option maxRecDepth 100000 in
theorem RB_inv {v : Value} {z : DataW Unit × List MemPlace} (h : RB v = some z) : ∃ c : Bool, v = .bool c ∧ z = (.lit (.bool c), []) := by
  unfold RB plainElem at h
  rw [Tryz.underlying4] at h
  cases v <;> simp at h
  exact ⟨_, rfl, h.symm⟩

/-- The datum holds the pairs of S, each with true. -/
structure DatS (D : DataW Unit) (S : List PQ2) : Prop where
  has : ∀ l, Maps.has D l = true ↔ ∃ q ∈ S, KL q l
  val : ∀ l, Maps.has D l = true → ∀ z, D.atKey l z = .lit (.bool true)
/-- Block b is the set of the pairs of S. -/
structure PSet (w : World) (b : Nat) (S : List PQ2) : Prop where
  nd : S.Nodup
  fit : ∀ q, q ∈ S → fitP q
  ex : ∃ (D : DataW Unit), w.ownsMap Tryz.prog 107 RB b S.length D ∧ Maps.size D = S.length ∧ DatS D S

theorem owns_tight {H : Type} {P : Program} {k : TypeId} {R : Value → Option (DataW H × List MemPlace)} {w : World} {b n : Nat} {D : DataW H} (h : w.ownsMap P k R b n D) : w.ownsMap P k R b (Maps.size D) D := by
  obtain ⟨es, clock, hb, F, hs, rfl⟩ := h
  exact ⟨es, clock, hb, F, by simp [Maps.size, length_sorted], rfl⟩

section
variable {w w' : World} {b : Nat} {S : List PQ2}
theorem PSet.made (w : World) : PSet (w.alloc (.map #[] 0)) w.heap.size [] :=
  ⟨List.nodup_nil, (fun q h => by cases h), .map [], World.ownsMap_made _ _ _ _, rfl, ⟨fun l => ⟨(fun h => by cases h), (fun ⟨q, h, _⟩ => by cases h)⟩, fun l h => by cases h⟩⟩
theorem PSet.lt (h : PSet w b S) : b < w.heap.size := by obtain ⟨-, -, D, h1, -⟩ := h; exact h1.lt
theorem PSet.keep (h : PSet w b S) (hb : w'.heap[b]? = w.heap[b]?) : PSet w' b S := by
  obtain ⟨h1, h2, D, ⟨es, clock, h3, r⟩, h4⟩ := h
  exact ⟨h1, h2, D, ⟨es, clock, hb.trans h3, r⟩, h4⟩
theorem PSet.below (h : PSet w b S) (hb : Below w.heap.size w w') : PSet w' b S := h.keep (hb.block b h.lt)
theorem PSet.map (h : PSet w b S) : ∃ es clock, w.heap[b]? = some (.map es clock) := by obtain ⟨-, -, D, ⟨es, clock, h1, r⟩, -⟩ := h; exact ⟨es, clock, h1⟩
set_option maxRecDepth 100000 in
theorem PSet.look (h : PSet w b S) {q : PQ2} (hq : fitP q) : (Instr.lookup 76 (.map (some b)) (pairV q) false).run Tryz.prog w = .ok (.bool (decide (q ∈ S))) w := by
  obtain ⟨h1, h2, D, h3, h5, h6⟩ := h
  obtain ⟨l, hl⟩ := keyP hq
  obtain ⟨v, ps, hr, hv⟩ := h3.lookup keyedP Tryz.underlying76 (zeroB w) (plainElem_bool Tryz.underlying4 false) hl
  obtain ⟨c, rfl, hc⟩ := RB_inv hv
  simp only [Prod.mk.injEq] at hc
  rw [hr]
  congr 2
  by_cases hm : q ∈ S
  · rw [h6.val l ((h6.has l).2 ⟨q, hm, hl⟩)] at hc
    have := hc.1
    injection this with e
    injection e with e
    rw [decide_eq_true hm]
    exact e.symm
  · have hno : Maps.has D l = false := by
      cases hh : Maps.has D l with
      | false => rfl
      | true =>
        obtain ⟨q', h7, h8⟩ := (h6.has l).1 hh
        exact absurd (KL.inj h8 hl ▸ h7) hm
    rw [Go.Maps.atKey_of_not_has hno] at hc
    have := hc.1
    injection this with e
    injection e with e
    rw [decide_eq_false hm]
    exact e.symm
theorem PSet.len (h : PSet w b S) (ty : TypeId) : (Builtin.len_ #[76] ty #[.map (some b)]).run Tryz.prog w = .ok (.int .i64 (S.length : Int)) w := by
  obtain ⟨h1, h2, D, h3, h5, h6⟩ := h
  rw [h3.len Tryz.underlying76 ty, h5]
/-- The set with one pair more. -/
def addQ (S : List PQ2) (q : PQ2) : List PQ2 := if q ∈ S then S else S ++ [q]
theorem addQ_mem {S : List PQ2} {q x : PQ2} : x ∈ addQ S q ↔ x ∈ S ∨ x = q := by
  unfold addQ
  split
  · constructor
    · exact .inl
    · rintro (h | rfl)
      · exact h
      · assumption
  · simp
set_option maxRecDepth 100000 in
theorem PSet.store (h : PSet w b S) (hn : S.length < maxLen) {q : PQ2} (hq : fitP q) :
    ∃ w', (Instr.mapUpdate 76 (.map (some b)) (pairV q) (.bool true)).run Tryz.prog w = .ok () w' ∧ PSet w' b (addQ S q) ∧ w.grownBy w' (some b) := by
  obtain ⟨h1, h2, D, h3, h5, h6⟩ := h
  have hm := h3.isMap
  obtain ⟨l, hl⟩ := keyP hq
  have hkl := keyedP.key hl
  obtain ⟨w', hr, h7, h8⟩ := h3.update keyedP Tryz.underlying76 hn hl (plainElem_bool Tryz.underlying4 true)
  have hsz : Maps.size (D.put l (.lit (.bool true))) = (addQ S q).length := by
    rw [Go.Maps.size_put (h3.tidy keyedP)]
    unfold addQ
    by_cases hm : q ∈ S
    · rw [if_pos ((h6.has l).2 ⟨q, hm, hl⟩), if_pos hm, h5]
    · rw [if_neg (fun hh => by obtain ⟨q', h9, h10⟩ := (h6.has l).1 hh; exact hm (KL.inj h10 hl ▸ h9)), if_neg hm, h5, List.length_append]
      rfl
  refine ⟨w', hr, ⟨?_, ?_, _, hsz ▸ owns_tight h7, hsz, ?_, ?_⟩, h8⟩
  · unfold addQ
    split
    · exact h1
    · rename_i hno
      rw [List.nodup_append]
      exact ⟨h1, by simp, fun a ha b' hb' => by rw [List.mem_singleton.1 hb']; rintro rfl; exact hno ha⟩
  · intro x hx
    rcases addQ_mem.1 hx with hx | rfl
    · exact h2 x hx
    · exact hq
  · intro l'
    by_cases e : l' = l
    · subst e
      exact ⟨fun _ => ⟨q, addQ_mem.2 (.inr rfl), hl⟩, fun _ => Go.Maps.has_true_of_atKey fun z => Go.Maps.atKey_put_same hm hkl _ z⟩
    · rw [Go.Maps.has_put_other e, h6.has]
      constructor
      · rintro ⟨x, hx, hxl⟩
        exact ⟨x, addQ_mem.2 (.inl hx), hxl⟩
      · rintro ⟨x, hx, hxl⟩
        rcases addQ_mem.1 hx with hx | rfl
        · exact ⟨x, hx, hxl⟩
        · exact absurd (Option.some.inj (hxl.symm.trans hl)) e
  · intro l' hh z
    by_cases e : l' = l
    · subst e
      exact Go.Maps.atKey_put_same hm hkl _ z
    · rw [Go.Maps.has_put_other e] at hh
      rw [Go.Maps.atKey_put_other e]
      exact h6.val l' hh z
end

/-- A loop over the set is under way: the pairs of L are still to come. -/
structure RSet (w : World) (b r : Nat) (S L : List PQ2) (cnt : Nat) : Prop where
  set : PSet w b S
  sub : ∀ q, q ∈ L → q ∈ S
  nd : L.Nodup
  ex : ∃ (D : DataW Unit) (left : Lit → Bool), w.ranges Tryz.prog 107 RB b r S.length D left cnt ∧ DatS D S ∧ ∀ l, left l = true ↔ ∃ q ∈ L, KL q l
section
variable {w w' : World} {b r : Nat} {S L : List PQ2} {cnt : Nat}
theorem RSet.kept (h : RSet w b r S L cnt) {row : Option Nat} (hg : w.grownBy w' row) (hb : some b ≠ row) (hr : some r ≠ row) : RSet w' b r S L cnt := by
  obtain ⟨h1, h2, h3, D, left, h4, h5⟩ := h
  exact ⟨h1.keep (hg.block b h1.lt hb), h2, h3, D, left, h4.kept hg hb hr, h5⟩
theorem RSet.lt (h : RSet w b r S L cnt) : r < w.heap.size := by obtain ⟨-, -, -, D, left, h4, -⟩ := h; exact h4.lt
theorem RSet.ne (h : RSet w b r S L cnt) : r ≠ b := by obtain ⟨-, -, -, D, left, h4, -⟩ := h; exact h4.ne
theorem RSet.below (h : RSet w b r S L cnt) (hb : Below w.heap.size w w') : RSet w' b r S L cnt :=
  h.kept (row := none) ⟨hb.os, hb.tape, hb.output, hb.size, fun i hi _ => hb.block i hi⟩ (by simp) (by simp)
end
section
variable {w : World} {ops : Array Oper} {rest : List Oper} {o : Oper} {a : Act} {Q : Exit → Act → World → Prop} {b r : Nat} {S L : List PQ2} {cnt : Nat}
set_option maxRecDepth 100000 in
theorem wpList_range_P (hg : o.guard = none) (m : Operand) (hop : o.op = Op.range 76 m) (hm : a.eval m = .map (some b)) (h : PSet w b S)
    (hK : ∀ w', RSet w' b w.heap.size S S S.length → w.grownBy w' none → w'.heap.size = w.heap.size + 1 → wpList Tryz.prog ops Q rest (a.put o.dst (.pointer (some ⟨w.heap.size, 0, none⟩))) w') :
    wpList Tryz.prog ops Q (o :: rest) a w := by
  obtain ⟨h1, h2, D, h3, h5, h6⟩ := h
  refine wpList_range_own w hg m _ hop 107 4 keyedP Tryz.underlying76 RB b S.length D hm h3 fun w' hr hgr hsz => hK w' ⟨⟨h1, h2, D, hr.owns, h5, h6⟩, fun q hq => hq, h1, D, Maps.has D, h5 ▸ hr, h6, h6.has⟩ hgr hsz
set_option maxRecDepth 100000 in
theorem wpList_next_P (hg : o.guard = none) (it : Operand) (hop : o.op = Op.next it false) (hit : a.eval it = .pointer (some ⟨r, 0, none⟩)) (h : RSet w b r S L cnt)
    (hDone : L = [] → wpList Tryz.prog ops Q rest (a.put o.dst (.tuple #[.bool false])) w)
    (hMore : ∀ (q : PQ2) (w' : World) (cnt' : Nat), q ∈ L → RSet w' b r S (L.filter fun x => decide (x ≠ q)) cnt' → cnt' < cnt → w.grownBy w' (some r) → w'.heap.size = w.heap.size →
      (Instr.entry (.pointer (some ⟨r, 0, none⟩))).run Tryz.prog w' = .ok (.tuple #[pairV q, .bool true]) w' → wpList Tryz.prog ops Q rest (a.put o.dst (.tuple #[.bool true, pairV q, .bool true])) w') :
    wpList Tryz.prog ops Q (o :: rest) a w := by
  obtain ⟨h1, h2, h3, D, left, h4, h5, h6⟩ := h
  have hkeyL : ∀ q l, KL q l → ∀ z : Lit, (∃ q' ∈ L, KL q' z) → (z.sameKey l = true ↔ z = l) := fun q l hl z ⟨q', hq', hz⟩ => ⟨WideAt.sameKey_eq, fun e => e ▸ WideAt.sameKey_self (keyedP.key hz)⟩
  refine wpList_next_ranges w hg it hop 107 keyedP RB id id (fun key kl _ => ⟨key, rfl⟩) (fun v y _ => ⟨v, rfl⟩) b r S.length D left cnt hit h4 (fun _ hl => hDone ?_) fun x c kl y w' cnt' hkey hlk hv hat hrg hlt hgr hsz hen => ?_
  · cases L with
    | nil => rfl
    | cons q L =>
      obtain ⟨l, hl'⟩ := keyP (h1.fit q (h2 q (List.mem_cons_self ..)))
      have := (h6 l).2 ⟨q, List.mem_cons_self .., hl'⟩
      rw [hl l] at this
      cases this
  · obtain ⟨q, hq, hql⟩ := (h6 kl).1 hlk
    obtain rfl : x = pairV q := keyedP.inj hkey hql
    obtain ⟨cb, rfl, hy⟩ := RB_inv hv
    have hhas : Maps.has D kl = true := (h5.has kl).2 ⟨q, h2 q hq, hql⟩
    have hcb : cb = true := by
      have h8 := hat (.lit (.bool true))
      rw [h5.val kl hhas, hy] at h8
      injection h8 with h8
      injection h8 with h8
      exact h8.symm
    subst hcb
    refine hMore q w' cnt' hq ⟨h1.keep (hgr.block b h1.lt (fun e => h4.ne (Option.some.inj e).symm)), fun z hz => h2 z (List.mem_filter.1 hz).1, h3.filter _, D, _, hrg, h5, fun l => ?_⟩ hlt hgr hsz hen
    rw [Bool.and_eq_true, Bool.not_eq_true']
    constructor
    · rintro ⟨h8, h9⟩
      obtain ⟨q', hq', hl'⟩ := (h6 l).1 h8
      refine ⟨q', List.mem_filter.2 ⟨hq', decide_eq_true fun e => ?_⟩, hl'⟩
      subst e
      have h10 : l = kl := Option.some.inj (hl'.symm.trans hql)
      subst h10
      rw [WideAt.sameKey_self (keyedP.key hl')] at h9
      cases h9
    · rintro ⟨q', hq', hl'⟩
      obtain ⟨h8, h9⟩ := List.mem_filter.1 hq'
      refine ⟨(h6 l).2 ⟨q', h8, hl'⟩, ?_⟩
      rw [decide_eq_true_eq] at h9
      cases hs : l.sameKey kl with
      | false => rfl
      | true =>
        have h10 := WideAt.sameKey_eq hs
        subst h10
        exact absurd (KL.inj hl' hql) h9
end
end Go.Proofs.YthlaoedpjloloaaGreatDoor

namespace Go.Proofs.YthlaoedpjloloaaGreatDoor
open Go.ChangeShapes Go.WideShapes Go.ChangeAt Go.RowKit
set_option linter.unusedVariables false

set_option maxRecDepth 100000 in
theorem indexFuncM_calls (F : FuncId) (caps : Array Value) (G : Int → Bool) (A : Option Addr) (n c : Nat) (l : List Int) (w : World) (lo hi : Nat) (h : SlI w lo hi A n l) (hn : n ≤ 1048576)
    (hF : ∀ (v : Value) (W : World), Sem.run Tryz.prog (callFunc F (#[v] ++ caps)) W = .ok (.enter F (#[v] ++ caps)) W)
    (hcl : ∀ (v : Int), v ∈ l → ∀ (W : World), Below w.heap.size w W → Calls Tryz.prog F (#[.int .i64 v] ++ caps) W (Says (G v) W)) :
    Calls Tryz.prog 112 #[.slice A n c, .func (.func F) #[] caps] w fun e w' => ∃ i : Int, e = .returned (.int .i64 i) ∧ decide (0 ≤ i) = l.any G ∧ Below w.heap.size w w' := by
  have hlen := hide h.len
  replace hcl := hide hcl
  go_enter Tryz.func112, Tryz.ntmps112
  go_wp2
  go_loopw [8] (fun i wr => ∃ k : Nat, k ≤ n ∧ i = .int .i64 k ∧ Below w.heap.size w wr ∧ Hid ((l.take k).any G = false)) (fun i _ => n - (intOf i).toNat)
  case atStart => exact ⟨0, Nat.zero_le _, rfl, Below.refl _ _, rfl⟩
  case round =>
    obtain ⟨k, hk, rfl, hb, ha⟩ := hrel
    by_cases hlt : k < n
    · obtain ⟨b, off, x, rfl, g1, g2, g3, hx, c0, -⟩ := h.get hlt
      replace c0 := (hb.cell (p := ⟨b, off + k, none⟩) g3).trans c0
      have hc := hcl.out x (List.mem_of_getElem? hx) wr hb
      replace hx := hide hx
      clear h hcl
      by_cases hg : G x = true
      · rw [hg] at hc
        replace hc := hide hc
        have hy := hide (any_hit hx.out hg)
        clear hg
        go_wp2_with fail
        refine hc.out.mono ?_
        rintro e w1 ⟨rfl, hb1⟩
        go_wp2_with fail
        go_ret
        exact ⟨_, rfl, by rw [hy.out]; simp, hb.trans (hb1.mono hb.size)⟩
      · replace hg := Bool.eq_false_iff.2 hg
        rw [hg] at hc
        replace hc := hide hc
        have hy := hide (any_take_succ ha.out hx.out hg)
        clear hg
        go_wp2_with fail
        refine hc.out.mono ?_
        rintro e w1 ⟨rfl, hb1⟩
        go_wp2_with fail
        go_roundw
        case rel => exact ⟨k + 1, by omega, by go_num, hb.trans (hb1.mono hb.size), hy⟩
        case measure => simp [intOf]; omega
    · have hkn : k = n := by omega
      subst hkn
      clear hcl
      go_wp2
      go_ret
      have hy := ha.out
      rw [List.take_of_length_le (by rw [hlen.out]; exact Nat.le_refl _)] at hy
      exact ⟨_, rfl, by rw [hy]; decide, hb⟩

theorem containsFuncM_calls (F : FuncId) (caps : Array Value) (G : Int → Bool) (A : Option Addr) (n c : Nat) (l : List Int) (w : World) (lo hi : Nat) (h : SlI w lo hi A n l) (hn : n ≤ 1048576)
    (hF : ∀ (v : Value) (W : World), Sem.run Tryz.prog (callFunc F (#[v] ++ caps)) W = .ok (.enter F (#[v] ++ caps)) W)
    (hcl : ∀ (v : Int), v ∈ l → ∀ (W : World), Below w.heap.size w W → Calls Tryz.prog F (#[.int .i64 v] ++ caps) W (Says (G v) W)) :
    Calls Tryz.prog 82 #[.slice A n c, .func (.func F) #[] caps] w (Says (l.any G) w) := by
  have q := hide (indexFuncM_calls F caps G A n c l w lo hi h hn hF hcl)
  clear h hF hcl
  go_enter Tryz.func82, Tryz.ntmps82
  go_wp2_with fail
  refine q.out.mono ?_
  rintro e w1 ⟨i, rfl, hi, hb⟩
  replace hi := hide hi
  go_wp2_with fail
  go_ret
  exact ⟨ret_b hi.out.symm, hb⟩

end Go.Proofs.YthlaoedpjloloaaGreatDoor
