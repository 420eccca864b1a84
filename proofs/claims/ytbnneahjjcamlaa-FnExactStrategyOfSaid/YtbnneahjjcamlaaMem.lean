/-
  Words for games and sets in memory, at an address that is known. Conditions: none.
-/
import Derived.Test.YtbnneahjjcamlaaValid2
import Derived.Test.YtbnneahjjcamlaaGame3
namespace Go.Proofs.Ytbnneahjjcamlaa
open Go.RowKit
set_option linter.unusedVariables false

theorem Sl.tight' {α : Type} {size : Nat} {f : α → List Value} {w : World} {lo hi n b off : Nat} {l : List α} (h : Sl size f w lo hi (some ⟨b, off, none⟩) n l) (hn : 0 < n) : Sl size f w b (b + 1) (some ⟨b, off, none⟩) n l := by
  have := h.tight 0
  rwa [spanOf_pos b off 0 hn] at this

/-- A game lies here. -/
def GameAt (w : World) (A : Option Addr) (n : Nat) (g : DV) : Prop := ∃ R, RowsV 1048576 w 0 w.heap.size A n R ∧ R.map dV = g ∧ n = g.length
/-- A set lies here. -/
def SetAt (w : World) (A : Option Addr) (n : Nat) (s : List Bool) : Prop := SlB w 0 w.heap.size A n s

section
variable {w w' : World} {A : Option Addr} {n b off k lo hi : Nat} {g : DV} {s : List Bool}
theorem GameAt.len (h : GameAt w A n g) : n = g.length := by obtain ⟨R, _, _, h⟩ := h; exact h
theorem SetAt.len (h : SetAt w A n s) : s.length = n := Sl.len h
theorem SetAt.sl (h : SetAt w A n s) : Sl 1 bv w 0 w.heap.size A n s := h
theorem GameAt.below {B : Nat} (h : GameAt w A n g) (hb : Below B w w') (hB : w.heap.size ≤ B) : GameAt w' A n g := by
  obtain ⟨R, h1, h2, h3⟩ := h
  exact ⟨R, (h1.below hb (.inl hB)).more (Nat.le_refl _) hb.size, h2, h3⟩
theorem SetAt.below {B : Nat} (h : SetAt w A n s) (hb : Below B w w') (hB : w.heap.size ≤ B) : SetAt w' A n s := (Sl.below h hb (.inl hB)).more (Nat.le_refl _) hb.size
theorem GameAt.drewN (h : GameAt w A n g) (k : Nat) : GameAt (w.drewN k) A n g := h.below (below_drewN w k) (Nat.le_refl _)
theorem SetAt.drewN (h : SetAt w A n s) (k : Nat) : SetAt (w.drewN k) A n s := h.below (below_drewN w k) (Nat.le_refl _)
theorem SlB.at_set (h : SlB w lo hi A n s) : SetAt w A n s := h.top.more (Nat.zero_le _) (Nat.le_refl _)
theorem GameAt.addr (h : GameAt w A n g) (hn : 0 < n) : ∃ b off, A = some ⟨b, off, none⟩ ∧ b < w.heap.size := by
  obtain ⟨R, h1, _⟩ := h
  obtain ⟨b, off, e, _, _, h3, _⟩ := h1.outer.at_ hn
  exact ⟨b, off, e, h3⟩
theorem SetAt.addr (h : SetAt w A n s) (hn : 0 < n) : ∃ b off, A = some ⟨b, off, none⟩ ∧ b < w.heap.size := by
  obtain ⟨b, off, e, _, _, h3, _⟩ := Sl.at_ h hn
  exact ⟨b, off, e, h3⟩
theorem SlB.cell (h : SlB w lo hi (some ⟨b, off, none⟩) n s) (hk : k < n) : w.cell? ⟨b, off + k, none⟩ = some (.bool (inS s k)) ∧ w.frozen? ⟨b, off + k, none⟩ = false ∧ lo ≤ b ∧ b < hi ∧ b < w.heap.size := by
  obtain ⟨b', off', e, h1, h2, h3, _, h4, h5⟩ := h.get hk
  cases e
  exact ⟨h4, h5, h1, h2, h3⟩
theorem SetAt.cell (h : SetAt w (some ⟨b, off, none⟩) n s) (hk : k < n) : w.cell? ⟨b, off + k, none⟩ = some (.bool (inS s k)) := (SlB.cell h hk).1
theorem SlI.cell {l : List Int} (h : SlI w lo hi (some ⟨b, off, none⟩) n l) (hk : k < n) : ∃ x, l[k]? = some x ∧ w.cell? ⟨b, off + k, none⟩ = some (.int .i64 x) ∧ w.frozen? ⟨b, off + k, none⟩ = false := by
  obtain ⟨b', off', x, e, h1, h2, h3, h4, h5, h6⟩ := h.get hk
  cases e
  exact ⟨x, h4, h5, h6⟩
/-- Vertex k. -/
theorem GameAt.cell (h : GameAt w (some ⟨b, off, none⟩) n g) (ok : GameOk g) (hk : k < n) :
    ∃ o p l Ah nh ch, g[k]? = some (o, p, l) ∧ w.cell? ⟨b, off + k * 3, none⟩ = some (.int .i64 o) ∧ w.cell? ⟨b, off + k * 3 + 1, none⟩ = some (.int .i64 p) ∧ w.cell? ⟨b, off + k * 3 + 2, none⟩ = some (.slice Ah nh ch) ∧
      SlI w 0 w.heap.size Ah nh l ∧ nh ≤ 1048576 ∧ (0 ≤ o ∧ o ≤ 1) ∧ (0 ≤ p ∧ p ≤ 9) ∧ Inc n l := by
  obtain ⟨R, h1, rfl, h3⟩ := h
  obtain ⟨b', off', o, p, Ah, nh, ch, l, e, g1, g2, g3, hx, c0, c1, c2, -, -, hs, hn⟩ := h1.atV hk
  cases e
  have hx2 : (R.map dV)[k]? = some (o, p, l) := by rw [List.getElem?_map, hx]; rfl
  have hv := ok.at_ hx2
  rw [← h3] at hv
  exact ⟨o, p, l, Ah, nh, ch, hx2, c0, c1, c2, hs, hn, hv.1, hv.2.1, hv.2.2⟩
end

end Go.Proofs.Ytbnneahjjcamlaa
