/-
  A game whose moves may be written anew beside a row of the call's own. Conditions: at most 1048576 vertices.
-/
import Derived.Test.YtbnneahjjcamlaaStratO
namespace Go.Proofs.Ytbnneahjjcamlaa
open Go.ChangeShapes Go.WideShapes Go.ChangeAt Go.RowKit
set_option linter.unusedVariables false

/-- A game lies at b, its lists in other blocks; none of it is the row. -/
def GameR (w : World) (b off n : Nat) (g : DV) (row : Option Nat) : Prop :=
  some b ≠ row ∧ ∃ R, RowsV 1048576 w 0 w.heap.size (some ⟨b, off, none⟩) n R ∧ R.map dV = g ∧ ∀ r ∈ R, 0 < (hdV r.1).2.1 → ∀ b' o', (hdV r.1).1 = some ⟨b', o', none⟩ → b' ≠ b ∧ some b' ≠ row
section
variable {w w' : World} {b off n k : Nat} {g : DV} {row row' : Option Nat}
theorem GameR.gw (h : GameR w b off n g row) : GameW w b off n g := by
  obtain ⟨_, R, h1, h2, h3⟩ := h
  exact ⟨R, h1, h2, fun r hr h0 b' o' e => (h3 r hr h0 b' o' e).1⟩
theorem GameR.below {B : Nat} (h : GameR w b off n g row) (hb : Below B w w') (hB : w.heap.size ≤ B) : GameR w' b off n g row := by
  obtain ⟨h0, R, h1, h2, h3⟩ := h
  exact ⟨h0, R, (h1.below hb (.inl hB)).more (Nat.le_refl _) hb.size, h2, h3⟩
/-- The row is new. -/
theorem GameW.withRow (h : GameW w b off n g) (hn : 0 < n) (hr : ∀ q, row = some q → w.heap.size ≤ q) : GameR w b off n g row := by
  obtain ⟨R, h1, h2, h3⟩ := h
  refine ⟨fun e => ?_, R, h1, h2, fun r hr' h0 b' o' e => ⟨h3 r hr' h0 b' o' e, fun e2 => ?_⟩⟩
  · have := hr b e.symm
    obtain ⟨b9, o9, e9, -, -, g3, -⟩ := h1.outer.at_ hn
    cases e9
    omega
  · have := hr b' e2.symm
    obtain ⟨b9, o9, e9, -, -, g3, -⟩ := (h1.rows r hr').1.at_ h0
    rw [e] at e9
    cases e9
    omega
/-- The row is written or grows. -/
theorem GameR.turn (h : GameR w b off n g row) (hs : w.heap.size ≤ w'.heap.size) (hk : ∀ q, q < w.heap.size → some q ≠ row → w'.heap[q]? = w.heap[q]?) (hr : row' = row ∨ ∀ q, row' = some q → w.heap.size ≤ q) (hn : 0 < n) : GameR w' b off n g row' := by
  obtain ⟨hbr, R, h1, h2, h3⟩ := h
  have keepS : ∀ {α : Type} (sz : Nat) (f : α → List Value) (B : Option Addr) (m : Nat) (s : List α), Sl sz f w 0 w.heap.size B m s → (0 < m → ∀ b' o', B = some ⟨b', o', none⟩ → some b' ≠ row) → Sl sz f w' 0 w'.heap.size B m s := by
    intro α sz f B m s hl hne
    refine ⟨hl.1, fun hm => ?_⟩
    obtain ⟨b2, o2, rfl, q1, q2, q3, q4⟩ := hl.2 hm
    have hk2 := hk b2 q3 (hne hm b2 o2 rfl)
    refine ⟨b2, o2, rfl, q1, by omega, by omega, fun i z hz j u hu => ?_⟩
    obtain ⟨r1, r2⟩ := q4 i z hz j u hu
    exact ⟨(World.cell?_of_block (w := w) (by simpa using hk2)).trans r1, (World.frozen?_of_block (w := w) (by simpa using hk2)).trans r2⟩
  have hlt : b < w.heap.size := by
    obtain ⟨b9, o9, e9, -, -, g3, -⟩ := h1.outer.at_ hn
    cases e9
    exact g3
  refine ⟨fun e => ?_, R, ⟨keepS _ _ _ _ _ h1.outer (fun _ b' o' e => by cases e; exact hbr), fun r hr' => ⟨keepS _ _ _ _ _ (h1.rows r hr').1 (fun h0 b' o' e => (h3 r hr' h0 b' o' e).2), (h1.rows r hr').2⟩⟩, h2, fun r hr' h0 b' o' e => ⟨(h3 r hr' h0 b' o' e).1, fun e2 => ?_⟩⟩
  · rcases hr with rfl | hr
    · exact hbr e
    · have := hr b e.symm; omega
  · rcases hr with rfl | hr
    · exact (h3 r hr' h0 b' o' e).2 e2
    · have := hr b' e2.symm
      obtain ⟨b9, o9, e9, -, -, g3, -⟩ := (h1.rows r hr').1.at_ h0
      rw [e] at e9
      cases e9
      omega
theorem GameR.put (h : GameR w b off n g row) (hk : k < n) {A2 : Option Addr} {nh c2 : Nat} {l : List Int} (hs : SlI w 0 w.heap.size A2 nh l) (hnh : nh ≤ 1048576) (hne : 0 < nh → ∀ b' o', A2 = some ⟨b', o', none⟩ → b' ≠ b ∧ some b' ≠ row) :
    GameR (w.setCell ⟨b, off + k * 3 + 2, none⟩ (.slice A2 nh c2)) b off n (putN g k l) row := by
  obtain ⟨hbr, R, h1, rfl, h3⟩ := h
  obtain ⟨b', off', ⟨x, y, hd0⟩, s0, e, g1, g2, g3, hr, hc0, -, -⟩ := h1.get hk
  cases e
  have hkl : k < R.length := (List.getElem?_eq_some_iff.1 hr).1
  have keepS : ∀ (B : Option Addr) (m : Nat) (s : List Int), SlI w 0 w.heap.size B m s → (0 < m → ∀ b' o', B = some ⟨b', o', none⟩ → b' ≠ b) → SlI (w.setCell ⟨b, off + k * 3 + 2, none⟩ (.slice A2 nh c2)) 0 (w.setCell ⟨b, off + k * 3 + 2, none⟩ (.slice A2 nh c2)).heap.size B m s := by
    intro B m s hl hn
    refine ⟨hl.1, fun hm => ?_⟩
    obtain ⟨b2, o2, rfl, q1, q2, q3, q4⟩ := hl.2 hm
    have hk2 : (w.setCell ⟨b, off + k * 3 + 2, none⟩ (.slice A2 nh c2)).heap[b2]? = w.heap[b2]? := Below.heap_setCell _ _ _ _ (hn hm b2 o2 rfl)
    refine ⟨b2, o2, rfl, q1, by rw [World.size_setCell]; exact q2, by rw [World.size_setCell]; exact q3, fun i z hz j u hu => ?_⟩
    obtain ⟨r1, r2⟩ := q4 i z hz j u hu
    exact ⟨(World.cell?_of_block (w := w) (by simpa using hk2)).trans r1, (World.frozen?_of_block (w := w) (by simpa using hk2)).trans r2⟩
  refine ⟨hbr, R.set k ((x, y, A2, nh, c2), l), ⟨⟨by rw [List.length_map, List.length_set, h1.len], fun hn0 => ?_⟩, fun r hr' => ?_⟩, ?_, fun r hr' => ?_⟩
  · obtain ⟨b3, o3, e3, p1, p2, p3, p4⟩ := h1.outer.2 hn0
    cases e3
    refine ⟨b, off, rfl, p1, by rw [World.size_setCell]; exact p2, by rw [World.size_setCell]; exact p3, fun i z hz j u hu => ?_⟩
    have hj : j < 3 := by have := (List.getElem?_eq_some_iff.1 hu).1; simpa [gV] using this
    rw [World.frozen?_setCell]
    rw [List.map_set] at hz
    by_cases hik : k = i
    · subst hik
      rw [List.getElem?_set_self (by rw [List.length_map]; exact hkl)] at hz
      cases hz
      have hold := p4 k (x, y, hd0) (by rw [List.getElem?_map, hr]; rfl)
      match j, hj with
      | 0, _ => exact ⟨(World.cell?_setCell_other _ _ _ _ (by intro e; injection e with _ e _; omega)).trans ((hold 0 _ rfl).1.trans hu), (hold 0 _ rfl).2⟩
      | 1, _ => exact ⟨(World.cell?_setCell_other _ _ _ _ (by intro e; injection e with _ e _; omega)).trans ((hold 1 _ rfl).1.trans hu), (hold 1 _ rfl).2⟩
      | 2, _ =>
        have h2 := hold 2 _ rfl
        refine ⟨?_, h2.2⟩
        have h4 := World.cell?_setCell_same w ⟨b, off + (k * 3 + 2), none⟩ (.slice A2 nh c2) h2.1
        simp [gV] at hu
        subst hu
        exact h4
    · rw [List.getElem?_set_ne hik] at hz
      obtain ⟨q1, q2⟩ := p4 i z hz j u hu
      exact ⟨(World.cell?_setCell_other _ _ _ _ (by intro e; injection e with _ e _; omega)).trans q1, q2⟩
  · rcases List.mem_or_eq_of_mem_set hr' with hr' | hr'
    · exact ⟨keepS _ _ _ (h1.rows r hr').1 (fun h0 b' o' e => (h3 r hr' h0 b' o' e).1), (h1.rows r hr').2⟩
    · subst hr'
      exact ⟨keepS _ _ _ hs (fun h0 b' o' e => (hne h0 b' o' e).1), hnh⟩
  · have hx : (R.map dV)[k]? = some (x, y, s0) := by rw [List.getElem?_map, hr]; rfl
    rw [List.map_set]
    unfold putN
    rw [gOwn_at hx, gPri_at hx]
    rfl
  · rcases List.mem_or_eq_of_mem_set hr' with hr' | hr'
    · exact h3 r hr'
    · subst hr'
      exact hne
end
theorem Own.only {α : Type} {size : Nat} {f : α → List Value} {w w' : World} {base n c lo hi : Nat} {e : TypeId} {A : Option Addr} {l : List α} (h : Own size f w base e A n c l) (o : Only lo hi w w') (hb : hi ≤ base) : Own size f w' base e A n c l :=
  h.keep fun g hg => o.block g (h.lt g hg).2 (.inr (by have := (h.lt g hg).1; omega))
theorem Below.only {B lo hi : Nat} {w w' : World} (h : Below B w w') (hB : w.heap.size ≤ B) : Only lo hi w w' := ⟨h.os, h.tape, h.output, h.size, fun k hk _ => h.block k (by omega)⟩

end Go.Proofs.Ytbnneahjjcamlaa
