/-
  Transition systems as arguments of a law, in the printer's shape. Conditions: sizes.
-/
import Derived.Test.YthlaoedpjloloaaGreatDoorMark
namespace Go.Proofs.YthlaoedpjloloaaGreatDoor
open Go.ChangeShapes Go.WideShapes Go.ChangeAt Go.RowKit Go.Deep
set_option linter.unusedVariables false

def ArgL (w : World) (lo hi : Nat) (v : Value) (d : DL) : Prop := ∃ x : CL, v = .agg #[.int .i64 x.1, .int .i64 x.2.1, x.2.2.1, x.2.2.2] ∧ ReadL w lo hi x d
def FreshL (w : World) (lo hi : Nat) (v : Value) (d : DL) : Prop := ArgL w lo hi v d ∧ totL d ≤ 1048576
section
variable {w w' : World} {lo hi lo' hi' B : Nat} {v u : Value} {d e : DL}
theorem ArgL.below (h : ArgL w lo hi v d) (hb : Below B w w') (hB : hi ≤ B ∨ w.heap.size ≤ B) : ArgL w' lo hi v d := by
  obtain ⟨x, e, h⟩ := h
  exact ⟨x, e, h.below hb hB⟩
theorem ArgL.only (h : ArgL w lo hi v d) (g : Only lo' hi' w w') (hd : hi ≤ lo' ∨ hi' ≤ lo) : ArgL w' lo hi v d := by
  obtain ⟨x, e, h⟩ := h
  exact ⟨x, e, h.only g hd⟩
theorem FreshL.below (h : FreshL w lo hi v d) (hb : Below B w w') (hB : hi ≤ B ∨ w.heap.size ≤ B) : FreshL w' lo hi v d := ⟨h.1.below hb hB, h.2⟩
theorem FreshL.only (h : FreshL w lo hi v d) (g : Only lo' hi' w w') (hd : hi ≤ lo' ∨ hi' ≤ lo) : FreshL w' lo hi v d := ⟨h.1.only g hd, h.2⟩
theorem szLts_u {left : Int} (h : ArgL w lo hi v d) (h0 : 0 ≤ left) (h1 : left ≤ 1048576) :
    Calls Tryz.prog 9 #[v, .int .i64 left] w fun e w' => e = .returned (.int .i64 (szLeft left (totL d))) ∧ Below w.heap.size w w' := by
  obtain ⟨x, rfl, h⟩ := h
  exact szLts_b h h0 h1
theorem toLts_u (h : ArgL w lo hi v d) (ht : totL d ≤ 1048576) :
    Calls Tryz.prog 11 #[v] w fun e w' => ∃ v', e = .returned v' ∧ FreshL w' w.heap.size w'.heap.size v' d ∧ Below w.heap.size w w' := by
  obtain ⟨x, rfl, h⟩ := h
  refine (toLts_a h ht).mono ?_
  rintro e w' ⟨y, rfl, hr, hb⟩
  exact ⟨_, rfl, ⟨⟨y, rfl, hr⟩, ht⟩, hb⟩
theorem eqLts_u (h : FreshL w lo hi v d) (g : FreshL w lo' hi' u e) :
    Calls Tryz.prog 13 #[v, u] w fun r w' => r = .returned (.bool (decide (d = e))) ∧ Below w.heap.size w w' := by
  obtain ⟨⟨x, rfl, h⟩, hs⟩ := h
  obtain ⟨⟨y, rfl, g⟩, gs⟩ := g
  exact eqLts_a h g hs gs
theorem markLts_u {m : Int} (h : FreshL w lo hi v d) (hh : hi ≤ w.heap.size) (h0 : 0 < m) (h1 : m ≤ 549747425280) :
    Calls Tryz.prog 30 #[v, .int .i64 m] w fun e w' => ∃ m', e = .returned (.int .i64 m') ∧ m ≤ m' ∧ m' ≤ m + 8388608 ∧ Only lo hi w w' := by
  obtain ⟨⟨x, rfl, h⟩, ht⟩ := h
  obtain ⟨hn2, hn3⟩ := wr_total ht
  obtain ⟨m, rfl⟩ : ∃ k : Nat, m = (k : Int) := ⟨m.toNat, by omega⟩
  refine (markLts_wr _ _ _ _ _ _ m w lo hi (WrL.of h) hn2 hn3 hh (by omega) (by omega)).mono ?_
  rintro e w' ⟨rfl, ho⟩
  exact ⟨_, rfl, by omega, by omega, ho.only⟩
end
set_option maxRecDepth 100000 in
theorem open_L {H : Type} {enc : TypeId × Value → H} {w : World} {base wbase : Nat} {spare : Nat → Bool} {held : Bool} {v : Value} {d : DataW H} {p : List MemPlace} {w0 : World} {r0 : Reach} (hw : Value.okWide Tryz.prog w0 r0 wbase 25 v)
    (h : DataW.Trod enc Tryz.prog w base spare held 25 v d p) (hz : ∀ b off, MemPlace.cell b off ∈ p → w.frozen? ⟨b, off, none⟩ = false) : ∃ x, ArgL w base w.heap.size v x := by
  obtain ⟨cs, rfl, hsz⟩ := okWide_struct Tryz.underlying25 hw
  obtain ⟨fuel, hf⟩ := h
  have hsz4 : cs.size = 4 := hsz
  have hf' : DataW.trod enc Tryz.prog w base spare held fuel 25 cs.toList = some (d, p) := hf
  obtain ⟨cs⟩ := cs
  match cs, hsz4 with
  | [k0, k1, k2, k3], _ =>
    obtain ⟨x, d0, ex, r0⟩ := read_L hf' hz
    injection ex with ex0 ex
    injection ex with ex1 ex
    injection ex with ex2 ex
    injection ex with ex3 ex
    subst ex0 ex1 ex2 ex3
    exact ⟨d0, x, rfl, r0⟩

end Go.Proofs.YthlaoedpjloloaaGreatDoor
