/-
  What the rows' condition on the library's variables gives a walk; opening of systems as arguments. Conditions: none.
-/
import Derived.Test.YtiaclddgllkgpaaGreatDoorLaid
import Derived.Test.YtiaclddgllkgpaaGreatDoorMonI2
import Derived.Test.YtiaclddgllkgpaaGreatDoorKindM
namespace Go.Proofs.YtiaclddgllkgpaaGreatDoor
open Go.ChangeShapes Go.WideShapes Go.ChangeAt Go.RowKit Go.Deep
set_option linter.unusedVariables false

abbrev laidL : List (String × DataW Unit) := Rows.fnExactValidMonitorRow.laid
theorem pow_data : (Rows.laid_internal_strconv_uint64pow10 : DataW Unit) = Lib.tabData .u64 Lib.pow10Tab := by kernel_rfl
theorem good_of {W : World} (h : laidMet Tryz.prog laidL W) (hS : W.ShapedOpen Tryz.prog) : Good W := by
  have h3 : laidMet Tryz.prog (("internal/strconv.uint64pow10", Lib.tabData .u64 Lib.pow10Tab) :: [("unicode/utf8.acceptRanges", Rows.laid_unicode_utf8_acceptRanges), ("strconv.ErrRange", Rows.laid_strconv_ErrRange), ("strconv.ErrSyntax", Rows.laid_strconv_ErrSyntax), ("unicode/utf8.first", Rows.laid_unicode_utf8_first)]) W := by
    rw [← pow_data]
    exact h.tail.tail
  have h6 : laidMet Tryz.prog (("strconv.ErrSyntax", Rows.laid_strconv_ErrSyntax) :: [("unicode/utf8.first", Rows.laid_unicode_utf8_first)]) W := h3.tail.tail.tail
  refine ⟨hS, Lib.tabIs_of_head (g := 5) (t := 300) (e := 199) (n := 20) (by kernel_rfl) (by kernel_rfl) Tryz.underlying300 Tryz.underlying199 (by kernel_rfl) (by kernel_rfl) h3, ?_⟩
  obtain ⟨ps, ⟨g0, t0, cs0, f0, p0, q0, hg0, ht0, hv0, hd0, _, e0⟩, _, hrows⟩ := h6
  have hg : Tryz.prog.globalNamed "strconv.ErrSyntax" = some 1 := by kernel_rfl
  have ht : (Tryz.prog.globals[1]?).map (·.type) = some 253 := by kernel_rfl
  obtain rfl := Option.some.inj (hg.symm.trans hg0)
  obtain rfl := Option.some.inj (ht.symm.trans ht0)
  obtain ⟨l0⟩ := cs0
  obtain ⟨_, u, v, e1, _, _⟩ := iface_of_trod Tryz.underlying253 hd0
  have e2 : l0 = [.iface u v] := e1
  subst e2
  exact ⟨u, v, hv0⟩

section
variable {H : Type} {enc : TypeId × Value → H} {P : Program} {w : World} {base : Nat} {spare : Nat → Bool} {held : Bool}
/-- One field of a struct, at its place. -/
theorem fieldN {t : TypeId} {fs : Array Field} (hs : P.underlying t = some (.struct fs)) {fuel : Nat} {cs : List Value} {x : DataW H × List MemPlace} (h : DataW.trod enc P w base spare held fuel t cs = some x)
    (i : Nat) (f : Field) (hf : fs[i]? = some f) : ∃ (n : Nat) (y : DataW H × List MemPlace), DataW.trod enc P w base spare held n f.type ((cs.drop f.offset).take (P.cellsOf f.type)) = some y ∧ ∀ m ∈ y.2, m ∈ x.2 := by
  obtain ⟨xs, n, _, rfl, hcl, hxl, hg⟩ := DataW.trod_struct hs h
  have hi : i < fs.size := (Array.getElem?_eq_some_iff.1 hf).1
  have g := hg i f hf
  have hx : xs[i]? = some xs[i] := List.getElem?_eq_getElem (by omega)
  rw [hx] at g
  exact ⟨n, xs[i], g, fun m hm => List.mem_flatMap.2 ⟨xs[i], List.getElem_mem _, hm⟩⟩
theorem read_S {t e : TypeId} (ht : P.underlying t = some (.slice e)) (hC : P.cellsOf e = 1) (hi : P.underlying e = some .string) {fuel : Nat} {c : Value} {r : DataW H × List MemPlace} (h : DataW.trod enc P w base spare held fuel t [c] = some r)
    (hz : ∀ b off, MemPlace.cell b off ∈ r.2 → w.frozen? ⟨b, off, none⟩ = false) : ∃ d, ArgS w base w.heap.size c d := by
  obtain ⟨A, n, k, l, e1, e2, e3, e4⟩ := open_flatQ (w := w) (base := base) (spare := spare) (held := held) strv (fun s => s.size ≤ maxLen) ht hC (by omega) (fun fuel cs y hy hl _ => by
    obtain ⟨a, ea, _, na⟩ := DataW.trod_string hi hy
    exact ⟨a, ea, na⟩) h hz
  simp at e1
  exact ⟨l, A, n, k, e1, e2, e4, e3⟩
theorem read_E {t e ft : TypeId} {f0 f1 f2 : Field} (ht : P.underlying t = some (.slice e)) (he : P.underlying e = some (.struct #[f0, f1, f2])) (hone : oneCellFields P #[f0, f1, f2] = true) (hC : P.cellsOf e = 3) (h0 : f0.type = ft) (h1 : f1.type = ft) (h2 : f2.type = ft) (hi : P.underlying ft = some (.int .i64))
    {fuel : Nat} {c : Value} {r : DataW H × List MemPlace} (h : DataW.trod enc P w base spare held fuel t [c] = some r) (hz : ∀ b off, MemPlace.cell b off ∈ r.2 → w.frozen? ⟨b, off, none⟩ = false) : ∃ d, ArgE w base w.heap.size c d := by
  obtain ⟨A, n, k, l, e1, e2, e3, _⟩ := open_flatQ (w := w) (base := base) (spare := spare) (held := held) ev (fun _ => True) ht hC (by omega) (fun fuel cs y hy hl _ => by
    obtain ⟨m0, c0, y0, g0, t0, _⟩ := field1 he hone hC hy 0 _ rfl
    obtain ⟨m1, c1, y1, g1, t1, _⟩ := field1 he hone hC hy 1 _ rfl
    obtain ⟨m2, c2, y2, g2, t2, _⟩ := field1 he hone hC hy 2 _ rfl
    change DataW.trod enc P w base spare held _ f0.type _ = _ at t0
    change DataW.trod enc P w base spare held _ f1.type _ = _ at t1
    change DataW.trod enc P w base spare held _ f2.type _ = _ at t2
    rw [h0] at t0
    rw [h1] at t1
    rw [h2] at t2
    obtain ⟨a0, ea0, _, _⟩ := DataW.trod_int hi t0
    obtain ⟨a1, ea1, _, _⟩ := DataW.trod_int hi t1
    obtain ⟨a2, ea2, _, _⟩ := DataW.trod_int hi t2
    match cs, hl with
    | [k0, k1, k2], _ =>
      simp at g0 g1 g2 ea0 ea1 ea2
      subst g0 g1 g2 ea0 ea1 ea2
      exact ⟨(a0, a1, a2), rfl, trivial⟩) h hz
  simp at e1
  exact ⟨l, A, n, k, e1, e2, e3⟩
end

set_option maxRecDepth 100000 in
/-- Four cells that read as a system. -/
theorem read_L {H : Type} {enc : TypeId × Value → H} {w : World} {base : Nat} {spare : Nat → Bool} {held : Bool} {fuel : Nat} {k0 k1 k2 k3 : Value} {r : DataW H × List MemPlace}
    (h : DataW.trod enc Tryz.prog w base spare held fuel 25 [k0, k1, k2, k3] = some r) (hz : ∀ b off, MemPlace.cell b off ∈ r.2 → w.frozen? ⟨b, off, none⟩ = false) :
    ∃ (x : CL) (d : DL), [k0, k1, k2, k3] = [.int .i64 x.1, .int .i64 x.2.1, x.2.2.1, x.2.2.2] ∧ ReadL w base w.heap.size x d := by
  obtain ⟨m0, c0, y0, g0, t0, p0⟩ := field1 Tryz.underlying25 (by kernel_rfl) (by kernel_rfl) h 0 _ rfl
  obtain ⟨m1, c1, y1, g1, t1, p1⟩ := field1 Tryz.underlying25 (by kernel_rfl) (by kernel_rfl) h 1 _ rfl
  obtain ⟨m2, c2, y2, g2, t2, p2⟩ := field1 Tryz.underlying25 (by kernel_rfl) (by kernel_rfl) h 2 _ rfl
  obtain ⟨m3, c3, y3, g3, t3, p3⟩ := field1 Tryz.underlying25 (by kernel_rfl) (by kernel_rfl) h 3 _ rfl
  obtain ⟨a0, ea0, _, _⟩ := DataW.trod_int Tryz.underlying2 t0
  obtain ⟨a1, ea1, _, _⟩ := DataW.trod_int Tryz.underlying2 t1
  obtain ⟨d2, r2⟩ := read_S Tryz.underlying22 (by kernel_rfl) Tryz.underlying9 t2 (fun b off hp => hz b off (p2 _ hp))
  obtain ⟨d3, r3⟩ := read_E Tryz.underlying23 Tryz.underlying156 (by kernel_rfl) (by kernel_rfl) rfl rfl rfl Tryz.underlying2 t3 (fun b off hp => hz b off (p3 _ hp))
  simp at g0 g1 g2 g3 ea0 ea1
  subst g0 g1 g2 g3 ea0 ea1
  exact ⟨(a0, a1, k2, k3), (a0, a1, d2, d3), rfl, rfl, rfl, r2, r3⟩

set_option maxRecDepth 100000 in
theorem open_M {H : Type} {enc : TypeId × Value → H} {w : World} {base wbase : Nat} {spare : Nat → Bool} {held : Bool} {v : Value} {d : DataW H} {p : List MemPlace} {w0 : World} {r0 : Reach} (hw : Value.okWide Tryz.prog w0 r0 wbase 28 v)
    (h : DataW.Trod enc Tryz.prog w base spare held 28 v d p) (hz : ∀ b off, MemPlace.cell b off ∈ p → w.frozen? ⟨b, off, none⟩ = false) : ∃ x, ArgM w base w.heap.size v x := by
  obtain ⟨cs, rfl, hsz⟩ := okWide_struct Tryz.underlying28 hw
  obtain ⟨fuel, hf⟩ := h
  have hsz5 : cs.size = 5 := hsz
  have hf' : DataW.trod enc Tryz.prog w base spare held fuel 28 cs.toList = some (d, p) := hf
  obtain ⟨cs⟩ := cs
  match cs, hsz5 with
  | [k0, k1, k2, k3, k4], _ =>
    obtain ⟨m0, y0, t0, p0⟩ := fieldN Tryz.underlying28 hf' 0 _ rfl
    obtain ⟨m1, y1, t1, p1⟩ := fieldN Tryz.underlying28 hf' 1 _ rfl
    have e0 : (([k0, k1, k2, k3, k4] : List Value).drop 0).take (Tryz.prog.cellsOf 25) = [k0, k1, k2, k3] := by rw [show Tryz.prog.cellsOf 25 = 4 by kernel_rfl]; rfl
    have e1 : (([k0, k1, k2, k3, k4] : List Value).drop 4).take (Tryz.prog.cellsOf 26) = [k4] := by rw [show Tryz.prog.cellsOf 26 = 1 by kernel_rfl]; rfl
    have t0' : DataW.trod enc Tryz.prog w base spare held m0 25 [k0, k1, k2, k3] = some y0 := by rw [← e0]; exact t0
    have t1' : DataW.trod enc Tryz.prog w base spare held m1 26 [k4] = some y1 := by rw [← e1]; exact t1
    obtain ⟨x, d0, ex, r0⟩ := read_L t0' (fun b off hp => hz b off (p0 _ hp))
    obtain ⟨d1, r1⟩ := read_I Tryz.underlying26 (by kernel_rfl) Tryz.underlying2 t1' (fun b off hp => hz b off (p1 _ hp))
    injection ex with ex0 ex
    injection ex with ex1 ex
    injection ex with ex2 ex
    injection ex with ex3 ex
    subst ex0 ex1 ex2 ex3
    exact ⟨(d0, d1), x, k4, rfl, r0, r1⟩

end Go.Proofs.YtiaclddgllkgpaaGreatDoor
