/-
  Lists of texts as arguments of a law: sizes, copying, comparing, opening. Conditions: sizes.
-/
import Derived.Test.YtiaclddgllkgpaaGreatDoorGood
namespace Go.Proofs.YtiaclddgllkgpaaGreatDoor
open Go.ChangeShapes Go.WideShapes Go.ChangeAt Go.RowKit Go.Deep
set_option linter.unusedVariables false

abbrev DSS := List ByteArray
def ArgSS (w : World) (lo hi : Nat) (v : Value) (d : DSS) : Prop := ArgS w lo hi v d
def totSS (d : DSS) : Nat := totS d
def FreshSS (w : World) (lo hi : Nat) (v : Value) (d : DSS) : Prop := ArgS w lo hi v d ∧ totS d ≤ 1048576
abbrev ResS (w : World) (lo hi : Nat) (v : Value) (d : DSS) : Prop := FreshSS w lo hi v d
section
variable {w w' : World} {lo hi lo' hi' B : Nat} {v u : Value} {d e : DSS}
theorem ArgSS.below (h : ArgSS w lo hi v d) (hb : Below B w w') (hB : hi ≤ B ∨ w.heap.size ≤ B) : ArgSS w' lo hi v d := ArgS.below h hb hB
theorem ArgSS.only (h : ArgSS w lo hi v d) (g : Only lo' hi' w w') (hd : hi ≤ lo' ∨ hi' ≤ lo) : ArgSS w' lo hi v d := ArgS.only h g hd
theorem FreshSS.below (h : FreshSS w lo hi v d) (hb : Below B w w') (hB : hi ≤ B ∨ w.heap.size ≤ B) : FreshSS w' lo hi v d := ⟨h.1.below hb hB, h.2⟩
theorem FreshSS.only (h : FreshSS w lo hi v d) (g : Only lo' hi' w w') (hd : hi ≤ lo' ∨ hi' ≤ lo) : FreshSS w' lo hi v d := ⟨h.1.only g hd, h.2⟩
theorem totS_length {l : List ByteArray} : l.length ≤ totS l := by unfold totS; omega
theorem szStringS_u {left : Int} (h : ArgSS w lo hi v d) (h0 : 0 ≤ left) (h1 : left ≤ 1048576) :
    Calls Tryz.prog 34 #[v, .int .i64 left] w fun e w' => e = .returned (.int .i64 (szLeft left (totSS d))) ∧ Below w.heap.size w w' := szStringS_b h h0 h1
theorem toStringS_u (h : ArgSS w lo hi v d) (ht : totSS d ≤ 1048576) :
    Calls Tryz.prog 36 #[v] w fun e w' => ∃ v', e = .returned v' ∧ FreshSS w' w.heap.size w'.heap.size v' d ∧ Below w.heap.size w w' := by
  refine (toStringS_a h (Nat.le_trans totS_length ht)).mono ?_
  rintro r w' ⟨v', rfl, h1, hb⟩
  exact ⟨v', rfl, ⟨h1, ht⟩, hb⟩
theorem eqStringS_u (h : FreshSS w lo hi v d) (g : FreshSS w lo' hi' u e) :
    Calls Tryz.prog 38 #[v, u] w fun r w' => r = .returned (.bool (decide (d = e))) ∧ Below w.heap.size w w' :=
  eqStringS_a h.1 g.1 (Nat.le_trans totS_length h.2) (Nat.le_trans totS_length g.2)
end
set_option maxRecDepth 100000 in
theorem open_SS {H : Type} {enc : TypeId × Value → H} {w : World} {base wbase : Nat} {spare : Nat → Bool} {held : Bool} {v : Value} {d : DataW H} {p : List MemPlace} {w0 : World} {r0 : Reach} (hw : Value.okWide Tryz.prog w0 r0 wbase 22 v)
    (h : DataW.Trod enc Tryz.prog w base spare held 22 v d p) (hz : ∀ b off, MemPlace.cell b off ∈ p → w.frozen? ⟨b, off, none⟩ = false) : ∃ x, ArgSS w base w.heap.size v x := by
  obtain ⟨A, n, c, rfl⟩ := okWide_slice Tryz.underlying22 hw
  obtain ⟨fuel, hf⟩ := h
  have hf' : DataW.trod enc Tryz.prog w base spare held fuel 22 [.slice A n c] = some (d, p) := hf
  exact read_S Tryz.underlying22 (by kernel_rfl) Tryz.underlying9 hf' hz

end Go.Proofs.YtiaclddgllkgpaaGreatDoor
