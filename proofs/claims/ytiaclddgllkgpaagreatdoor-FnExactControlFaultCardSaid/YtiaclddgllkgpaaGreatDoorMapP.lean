/-
  A map from pairs of numbers to numbers, read as a function. Conditions: numbers that fit.
-/
import Derived.Test.YtiaclddgllkgpaaGreatDoorBaseD
import Derived.Maps.OwnSet
import Derived.Maps.Views
import Derived.WideKeyPair
import Derived.DeepKeys4
import Derived.WalkArith
namespace Go.Proofs.YtiaclddgllkgpaaGreatDoor
open Go.ChangeShapes Go.WideShapes Go.ChangeAt Go.RowKit
open Go.Maps (Keyed)
set_option linter.unusedVariables false

def pairV (q : Int × Int) : Value := .agg #[.int .i64 q.1, .int .i64 q.2]
def fitP (q : Int × Int) : Prop := (Lit.int .i64 q.1).wf = true ∧ (Lit.int .i64 q.2).wf = true
theorem fit_of {a b : Int} (h1 : 0 ≤ a) (h2 : a ≤ 1048576) (h3 : 0 ≤ b) (h4 : b ≤ 1048576) : fitP (a, b) :=
  ⟨WalkArith.wf_i64 (by omega), WalkArith.wf_i64 (by omega)⟩
theorem laidP : laidOutB Tryz.prog = true := by kernel_rfl
set_option maxRecDepth 100000 in
theorem arrP : Go.WideMaps.ArrKey Tryz.prog 172 2 2 := ⟨Tryz.underlying172, by kernel_rfl, by kernel_rfl, by kernel_rfl⟩
theorem typesP : ∃ m, Tryz.prog.types.size = m + 1 := ⟨Tryz.prog.types.size - 1, by have : 0 < Tryz.prog.types.size := of_decide_eq_true (by kernel_rfl); omega⟩
set_option maxRecDepth 100000 in
theorem keyedP : Keyed Tryz.prog 172 := Keyed.of_law (Go.deep_law_laid laidP (m := 2) (by omega) (of_decide_eq_true (by kernel_rfl)) (by kernel_rfl) (by rw [Tryz.underlying172]))
theorem zeroP (w : World) : (zeroValue 2).run Tryz.prog w = .ok (.int .i64 0) w := by kernel_rfl
theorem keyP {q : Int × Int} (h : fitP q) : ∃ l, keyOf Tryz.prog 172 (pairV q) = some l := ⟨_, Go.WideMaps.keyOf_pair arrP Tryz.underlying2 typesP h.1 h.2⟩
theorem pairV_inj {a b : Int × Int} (h : pairV a = pairV b) : a = b := by
  unfold pairV at h
  injection h with h
  injection h with h
  injection h with h1 h2
  injection h2 with h2 _
  injection h1 with _ h1
  injection h2 with _ h2
  exact Prod.ext h1 h2

/-- Block b is a map of at most n entries that answers as f. -/
def MapP (w : World) (b n : Nat) (f : Int × Int → Option Int) : Prop :=
  ∃ D : DataW Unit, w.ownsMap Tryz.prog 172 (plainElem Tryz.prog 2) b n D ∧ ∀ (k : Int × Int) (l : Lit), fitP k → keyOf Tryz.prog 172 (pairV k) = some l → Maps.has D l = (f k).isSome ∧ ∀ c, f k = some c → D.atKey l (.lit (.int .i64 0)) = .lit (.int .i64 c)

section
variable {w w' : World} {b n : Nat} {f : Int × Int → Option Int}
theorem MapP.made (w : World) : MapP (w.alloc (.map #[] 0)) w.heap.size 0 (fun _ => none) :=
  ⟨.map [], World.ownsMap_made _ _ _ _, fun k l _ _ => ⟨rfl, fun c h => by cases h⟩⟩
theorem MapP.lt (h : MapP w b n f) : b < w.heap.size := by obtain ⟨D, h1, _⟩ := h; exact h1.lt
theorem MapP.map (h : MapP w b n f) : ∃ es clock, w.heap[b]? = some (.map es clock) := by obtain ⟨D, ⟨es, clock, h1, r⟩, h2⟩ := h; exact ⟨es, clock, h1⟩
theorem MapP.kept {row : Option Nat} (h : MapP w b n f) (hg : w.grownBy w' row) (hne : some b ≠ row) : MapP w' b n f := by
  obtain ⟨D, h1, h2⟩ := h
  exact ⟨D, h1.kept hg hne, h2⟩
theorem MapP.keep (h : MapP w b n f) (hb : w'.heap[b]? = w.heap[b]?) : MapP w' b n f := by
  obtain ⟨D, ⟨es, clock, h1, r⟩, h2⟩ := h
  exact ⟨D, ⟨es, clock, hb.trans h1, r⟩, h2⟩
set_option maxRecDepth 100000 in
theorem MapP.lookOk (h : MapP w b n f) {k : Int × Int} (hk : fitP k) : ∃ c : Int, (Instr.lookup 114 (.map (some b)) (pairV k) true).run Tryz.prog w = .ok (.tuple #[.int .i64 c, .bool (f k).isSome]) w ∧ ∀ c', f k = some c' → c = c' := by
  obtain ⟨D, h1, h2⟩ := h
  obtain ⟨l, hl⟩ := keyP hk
  obtain ⟨h3, h4⟩ := h2 k l hk hl
  obtain ⟨v, ps, hr, hv⟩ := h1.look_ok keyedP Tryz.underlying114 (zeroP w) (plainElem_int Tryz.underlying2 (by decide)) hl
  obtain ⟨c, rfl, hc, hw⟩ := plainElem_int_inv Tryz.underlying2 hv
  simp only [Prod.mk.injEq] at hc
  rw [h3] at hr
  refine ⟨c, hr, fun c' hc' => ?_⟩
  rw [h4 c' hc'] at hc
  have := hc.1
  injection this with e
  injection e with _ e
  exact e.symm
theorem MapP.update (h : MapP w b n f) (hn : n < maxLen) {k : Int × Int} {c : Int} (hk : fitP k) (hc : (Lit.int .i64 c).wf = true) :
    ∃ w', (Instr.mapUpdate 114 (.map (some b)) (pairV k) (.int .i64 c)).run Tryz.prog w = .ok () w' ∧ MapP w' b (n + 1) (fun i => if i = k then some c else f i) ∧ w.grownBy w' (some b) := by
  obtain ⟨D, h1, h2⟩ := h
  have hm := h1.isMap
  obtain ⟨l, hl⟩ := keyP hk
  have hkl := keyedP.key hl
  obtain ⟨w', hr, h3, h4⟩ := h1.update keyedP Tryz.underlying114 hn hl (plainElem_int Tryz.underlying2 hc)
  refine ⟨w', hr, ⟨_, h3, fun i l' hi hl' => ?_⟩, h4⟩
  by_cases e : i = k
  · subst e
    rw [hl] at hl'
    obtain rfl := Option.some.inj hl'
    simp only [if_true]
    refine ⟨Go.Maps.has_true_of_atKey fun z => Go.Maps.atKey_put_same hm hkl _ z, fun c' hc' => ?_⟩
    cases hc'
    exact Go.Maps.atKey_put_same hm hkl _ _
  · simp only [if_neg e]
    have hne : l' ≠ l := fun h => e (pairV_inj (keyedP.inj (by rw [hl', h]) hl))
    obtain ⟨h5, h6⟩ := h2 i l' hi hl'
    refine ⟨?_, fun c' hc' => by rw [Go.Maps.atKey_put_other hne]; exact h6 c' hc'⟩
    rw [← h5]
    exact Go.Maps.has_put_other hne _
end

end Go.Proofs.YtiaclddgllkgpaaGreatDoor
