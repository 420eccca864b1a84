/-
  From the reading of an argument to the words for memory: slices whose elements lead into further memory. Conditions: none.
-/
import Derived.Test.YtiaclddgllkgpaaGreatDoorOpen
namespace Go.Proofs.YtiaclddgllkgpaaGreatDoor
open Go.ChangeShapes Go.WideShapes Go.Deep Go.RowKit

section
variable {H : Type} {enc : TypeId × Value → H} {P : Program} {w : World} {base : Nat} {spare : Nat → Bool} {held : Bool}

theorem open_flatQ {α : Type} (f : α → List Value) (Q : α → Prop) {t e : TypeId} {size : Nat} (ht : P.underlying t = some (.slice e)) (hC : P.cellsOf e = size) (hs : 0 < size)
    (hE : ∀ (fuel : Nat) (cs : List Value) (y : DataW H × List MemPlace), DataW.trod enc P w base spare held fuel e cs = some y → cs.length = size → (∀ b off, MemPlace.cell b off ∈ y.2 → w.frozen? ⟨b, off, none⟩ = false) → ∃ x : α, cs = f x ∧ Q x)
    {fuel : Nat} {cs : List Value} {r : DataW H × List MemPlace} (h : DataW.trod enc P w base spare held fuel t cs = some r) (hz : ∀ b off, MemPlace.cell b off ∈ r.2 → w.frozen? ⟨b, off, none⟩ = false) :
    ∃ A n c l, cs = [.slice A n c] ∧ n ≤ maxLen ∧ Sl size f w base w.heap.size A n l ∧ ∀ x ∈ l, Q x := by
  rcases open_slice ht h with ⟨hcs, _⟩ | ⟨a, len, cap, m, n, D, Pl, hcs, hb, hl, hm, hmm, hr, hi⟩
  · exact ⟨none, 0, 0, [], hcs, Nat.zero_le _, Sl.nil_, fun _ h => (List.not_mem_nil h).elim⟩
  · have hlm : len ≤ m := by rw [hmm]; split <;> omega
    have hq : ∀ i, i < len → ∃ x : α, (∀ j u, (f x)[j]? = some u → w.cell? ((a.add (i * size)).add j) = some u ∧ j < size) ∧ Q x := by
      intro i hil
      obtain ⟨cs', hc, ht'⟩ := hi i (by omega)
      rw [hC] at hc
      obtain ⟨_, hcl, hat⟩ := World.cells?_some hc
      obtain ⟨y, rfl, hQ⟩ := hE _ _ _ ht' hcl (fun b off hp => hz b off (by
        rw [hr]
        exact List.mem_append_right _ (List.mem_flatMap.2 ⟨i, List.mem_range.2 (by omega), hp⟩)))
      refine ⟨y, fun j u hu => ?_, hQ⟩
      have hj : j < size := by rw [← hcl]; exact (List.getElem?_eq_some_iff.1 hu).1
      exact ⟨(hat j hj).trans hu, hj⟩
    obtain ⟨l, hll, hlq⟩ := list_of len hq
    refine ⟨some a, len, cap, l, hcs, by omega, ⟨hll, fun h0 => ?_⟩, fun x hx => ?_⟩
    · obtain ⟨b, off, spot⟩ := a
      have hspot : spot = none := by
        obtain ⟨cs', hc, ht'⟩ := hi 0 (by omega)
        rw [hC] at hc
        obtain ⟨_, hcl, hat⟩ := World.cells?_some hc
        have h1 := hat 0 hs
        rw [List.getElem?_eq_getElem (by omega)] at h1
        simpa [Addr.add] using World.cell?_spot h1
      subst hspot
      have hcell : ∀ (k : Nat) (x : α), l[k]? = some x → ∀ (j : Nat) (u : Value), (f x)[j]? = some u → w.cell? ⟨b, off + (k * size + j), none⟩ = some u ∧ k < len ∧ j < size := by
        intro k x hx j u hu
        obtain ⟨h1, h2⟩ := (hlq k x hx).1 j u hu
        rw [addr_add, addr_add, Nat.add_assoc] at h1
        exact ⟨h1, by rw [← hll]; exact (List.getElem?_eq_some_iff.1 hx).1, h2⟩
      have hbl : b < w.heap.size := by
        obtain ⟨cs', hc, ht'⟩ := hi 0 (by omega)
        rw [hC] at hc
        obtain ⟨_, hcl, hat⟩ := World.cells?_some hc
        have h1 := hat 0 hs
        rw [List.getElem?_eq_getElem (by omega), addr_add, addr_add] at h1
        exact World.block_lt_of_cell? w _ h1
      refine ⟨b, off, rfl, hb, hbl, hbl, fun k x hx j u hu => ?_⟩
      obtain ⟨h1, h2, h3⟩ := hcell k x hx j u hu
      refine ⟨h1, hz _ _ ?_⟩
      rw [hr, hC]
      refine List.mem_append_left _ (mem_row (a := ⟨b, off, none⟩) ?_)
      have hkm : (k + 1) * size ≤ m * size := Nat.mul_le_mul_right _ (by omega)
      rw [Nat.add_mul] at hkm
      omega
    · obtain ⟨k, hk⟩ := List.getElem?_of_mem hx
      exact (hlq k x hk).2

/-- The cells of a struct of two int64. -/
theorem two_ints {e ft : TypeId} {f0 f1 : Field} (he : P.underlying e = some (.struct #[f0, f1])) (hone : oneCellFields P #[f0, f1] = true) (h0 : f0.type = ft) (h1 : f1.type = ft) (hi : P.underlying ft = some (.int .i64))
    (fuel : Nat) (cs : List Value) (y : DataW H × List MemPlace) (hy : DataW.trod enc P w base spare held fuel e cs = some y) (hl : cs.length = 2) : ∃ x : Int × Int, cs = tv x := by
  obtain ⟨xs, n, _, _, _, hxl, hg⟩ := DataW.trod_struct he hy
  obtain ⟨o0, k0⟩ := hone_of hone 0 f0 rfl
  obtain ⟨o1, k1⟩ := hone_of hone 1 f1 rfl
  match cs, hl with
  | [c0, c1], _ =>
    have g0 := hg 0 f0 rfl
    have g1 := hg 1 f1 rfl
    rw [o0, k0, h0] at g0
    rw [o1, k1, h1] at g1
    rw [List.getElem?_eq_getElem (by rw [hxl]; simp)] at g0 g1
    obtain ⟨a, ea, _, _⟩ := DataW.trod_int hi g0
    obtain ⟨b, eb, _, _⟩ := DataW.trod_int hi g1
    simp at ea eb
    exact ⟨(a, b), by simp [tv, ea, eb]⟩
end

end Go.Proofs.YtiaclddgllkgpaaGreatDoor
