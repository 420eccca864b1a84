/-
  slices.Sort and slices.Compact at []int64, on a slice of the call's own. Conditions: sizes.
-/
import Derived.Test.YtiaclddgllkgpaaGreatDoorShelf2
import Derived.Test.YtiaclddgllkgpaaGreatDoorBaseA
namespace Go.Proofs.YtiaclddgllkgpaaGreatDoor
open Go.RowKit Go.Sort Go.Lib
set_option linter.unusedVariables false
set_option linter.unusedSimpArgs false

def sortI (l : List Int) : List Int := l.mergeSort fun x y => decide (x ≤ y)
theorem sortI_nil : sortI [] = [] := by simp [sortI]
theorem sortI_len (l : List Int) : (sortI l).length = l.length := List.length_mergeSort _
theorem sortI_mem {l : List Int} {x : Int} : x ∈ sortI l ↔ x ∈ l := List.mem_mergeSort
theorem iv_map (l : List Int) : l.flatMap iv = l.map (Value.int .i64) := by
  induction l with
  | nil => rfl
  | cons x l ih => rw [List.flatMap_cons, ih]; rfl

theorem compact_mem {l : List Int} {x : Int} : x ∈ Lib.compact l ↔ x ∈ l := by
  unfold Lib.compact Lib.compactUpTo
  rw [List.mem_map]
  constructor
  · rintro ⟨k, hk, rfl⟩
    have hk' := List.mem_range.1 (List.mem_filter.1 hk).1
    rw [getElem!_pos _ k (by simpa using hk')]
    simp
  · intro hx
    obtain ⟨k, hk, rfl⟩ := List.mem_iff_getElem.1 hx
    have key : ∀ k, (hk : k < l.length) → ∃ a, a ∈ (List.range l.length).filter (Lib.keeps l.toArray) ∧ l.toArray[a]! = l[k] := by
      intro k
      induction k with
      | zero => exact fun hk => ⟨0, List.mem_filter.2 ⟨List.mem_range.2 hk, by simp [Lib.keeps]⟩, by rw [getElem!_pos _ 0 (by simpa using hk)]; simp⟩
      | succ k ih =>
        intro hk
        by_cases h : l.toArray[k + 1]! = l.toArray[k]!
        · obtain ⟨a, ha, e⟩ := ih (by omega)
          refine ⟨a, ha, ?_⟩
          rw [e]
          rw [getElem!_pos _ (k + 1) (by simpa using hk), getElem!_pos _ k (by simp; omega)] at h
          simpa using h.symm
        · exact ⟨k + 1, List.mem_filter.2 ⟨List.mem_range.2 hk, Lib.keeps_pos (by simpa using h)⟩, by rw [getElem!_pos _ (k + 1) (by simpa using hk)]; simp⟩
    exact key k hk
theorem compact_len (l : List Int) : (Lib.compact l).length ≤ l.length := by
  unfold Lib.compact Lib.compactUpTo
  rw [List.length_map]
  exact Nat.le_trans (List.length_filter_le _ _) (by simp)

section
variable {w : World} {base g n c q : Nat} {e : TypeId} {l d : List Int} {os : Array Obj}

theorem put_block (w : World) (g q : Nat) (d : List Int) (os : Array Obj) (hg : g < w.heap.size) :
    (grow (putRow (Value.int .i64) (Sort.ahead w q) g 0 d.toArray) os).heap[g]? = (w.heap[g]?).map (onCells (Go.Sort.putCells (Value.int .i64) 0 d.toArray)) := by
  rw [heap_grow_old _ _ (by simpa [putRow, mapBlock, Sort.ahead] using hg)]
  simp [putRow, mapBlock, Sort.ahead, Array.getElem?_modify]

theorem put_grown (w : World) (g q : Nat) (d : List Int) (os : Array Obj) : w.grownBy (grow (putRow (Value.int .i64) (Sort.ahead w q) g 0 d.toArray) os) (some g) := by
  refine ⟨rfl, rfl, rfl, by simp [putRow, mapBlock, Sort.ahead], fun k hk hne => ?_⟩
  rw [heap_grow_old _ _ (by simpa [putRow, mapBlock, Sort.ahead] using hk)]
  have hne' : g ≠ k := fun h => hne (by rw [h])
  simp [putRow, mapBlock, Sort.ahead, Array.getElem?_modify, hne']

theorem Own.put (h : Own 1 iv w base e (some ⟨g, 0, none⟩) n c l) (hd : d.length = n) {m : Nat} (hm : m ≤ n) :
    Own 1 iv (grow (putRow (Value.int .i64) (Sort.ahead w q) g 0 d.toArray) os) base e (some ⟨g, 0, none⟩) m c (d.take m) := by
  rcases h.2.2 with ⟨hv, -⟩ | ⟨g', cap, cur, hv, hb, hg, hnc, hcm, hcs, htake⟩
  · cases hv
  · cases hv
    have hlt : g < w.heap.size := (Array.getElem?_eq_some_iff.1 hg).1
    have hl : (d.take m).length = m := by rw [List.length_take]; omega
    refine ⟨hl, by rw [flat_length flat_iv, hl], .inr ⟨g, c, Go.Sort.putCells (Value.int .i64) 0 d.toArray cur, rfl, hb, ?_, by omega, hcm, by simp [Go.Sort.putCells, hcs], ?_⟩⟩
    · rw [put_block _ _ _ _ _ hlt, hg]
      rfl
    · rw [iv_map]
      apply List.ext_getElem?
      intro k
      by_cases hk : k < m
      · have hkc : k < cur.size := by omega
        have hkd : k < d.length := by omega
        rw [List.getElem?_take, if_pos (by omega), List.getElem?_map, List.getElem?_take, if_pos hk, Array.getElem?_toList, List.getElem?_eq_getElem hkd]
        simp only [Go.Sort.putCells, Array.getElem?_mapIdx, Array.getElem?_eq_getElem hkc, Option.map_some]
        rw [if_pos ⟨Nat.zero_le _, by simp; omega⟩, Nat.sub_zero, getElem!_pos _ k (by simpa using hkd)]
        simp
      · rw [List.getElem?_eq_none (by simp; omega), List.getElem?_eq_none (by simp; omega)]

theorem Own.holds (h : Own 1 iv w base e (some ⟨g, 0, none⟩) n c l) : Holds (Value.int .i64) w g 0 l.toArray := by
  intro j hj
  have hj' : j < l.length := by simpa using hj
  have hs := h.sl flat_iv
  have hn := h.len
  obtain ⟨b', off', e', -, -, -, hc⟩ := hs.at_ (by omega)
  cases e'
  have := hc j l[j] (List.getElem?_eq_getElem hj') 0 (.int .i64 l[j]) rfl
  rw [getElem!_pos _ j hj]
  simpa using this
end

section
variable {w : World} {base n c : Nat} {A : Option Addr} {l : List Int}

theorem sortI_calls (h : Own 1 iv w base 2 A n c l) (hn : n ≤ 1000000000) :
    Calls Tryz.prog 166 #[.slice A n c] w fun e w' => e = .returned (.tuple #[]) ∧ Own 1 iv w' base 2 A n c (sortI l) ∧ w.grownBy w' (Value.slice A n c).ownBlock := by
  rcases h.2.2 with ⟨hv, hn0⟩ | ⟨g, cap, cur, hv, hb, hg, hnc, hcm, hcs, htake⟩
  · cases hv
    have hl := List.eq_nil_of_length_eq_zero h.len
    subst hl
    refine (Tryz.slices_Sort_int_none none 0 w).mono ?_
    rintro e w' ⟨rfl, rfl⟩
    rw [sortI_nil]
    exact ⟨rfl, h, ⟨rfl, rfl, rfl, Nat.le_refl _, fun _ _ _ => rfl⟩⟩
  · cases hv
    have hlt : g < w.heap.size := (Array.getElem?_eq_some_iff.1 hg).1
    have hq := Tryz.slices_Sort_int g 0 c l w h.holds hlt (by have := h.len; omega)
    rw [h.len] at hq
    refine hq.mono ?_
    rintro e w' ⟨rfl, q, os, rfl⟩
    refine ⟨rfl, ?_, put_grown _ _ _ _ _⟩
    have := h.put (d := sortI l) (q := q) (os := os) ((sortI_len l).trans h.len) (Nat.le_refl n)
    rwa [List.take_of_length_le (by rw [sortI_len, h.len]; exact Nat.le_refl _)] at this

theorem compactI_calls (h : Own 1 iv w base 2 A n c l) (hn : n ≤ 1000000000) :
    Calls Tryz.prog 167 #[.slice A n c] w fun e w' => e = .returned (.slice A (Lib.compact l).length c) ∧ Own 1 iv w' base 2 A (Lib.compact l).length c (Lib.compact l) ∧ w.grownBy w' (Value.slice A n c).ownBlock := by
  rcases h.2.2 with ⟨hv, hn0⟩ | ⟨g, cap, cur, hv, hb, hg, hnc, hcm, hcs, htake⟩
  · cases hv
    have hl := List.eq_nil_of_length_eq_zero h.len
    subst hl
    refine (Tryz.slices_Compact_int_empty none 0 w).mono ?_
    rintro e w' ⟨rfl, rfl⟩
    exact ⟨rfl, h, ⟨rfl, rfl, rfl, Nat.le_refl _, fun _ _ _ => rfl⟩⟩
  · cases hv
    have hlt : g < w.heap.size := (Array.getElem?_eq_some_iff.1 hg).1
    have hlen := compact_len l
    have hq := Tryz.slices_Compact_int g 0 c l w h.holds (by have := h.len; omega) (by have := h.len; omega)
    rw [h.len] at hq hlen
    refine hq.mono ?_
    rintro e w' ⟨rfl, q, rfl⟩
    have hd : (Lib.compact l ++ List.replicate (n - (Lib.compact l).length) 0).length = n := by simp; omega
    have h1 := h.put (d := Lib.compact l ++ List.replicate (n - (Lib.compact l).length) 0) (q := q) (os := #[]) hd hlen
    have h2 := put_grown w g q (Lib.compact l ++ List.replicate (n - (Lib.compact l).length) 0) #[]
    rw [grow_empty] at h1 h2
    rw [List.take_left'  rfl] at h1
    exact ⟨rfl, h1, h2⟩
end

end Go.Proofs.YtiaclddgllkgpaaGreatDoor
