/-
  Linear processes as arguments of a law: the helpers' contracts in one shape, and the opening. Conditions: none.
-/
import Derived.Test.YtdjhpdmpibokhaaLinImpl3
import Derived.Test.YtdjhpdmpibokhaaOpenG
namespace Go.Proofs.Ytdjhpdmpibokhaa
open Go.ChangeShapes Go.WideShapes Go.ChangeAt Go.RowKit Go.Deep
set_option linter.unusedVariables false

theorem ArgLi.read {v : Value} {d : DLi} {w : World} {lo hi : Nat} (h : ArgLi w lo hi v d) : ∃ x : CLi, v = .agg #[.int .i64 x.1, x.2.1, x.2.2] ∧ ReadLi w lo hi x d := by
  obtain ⟨v1, v2, rfl, h1, h2⟩ := h
  exact ⟨(d.1, v1, v2), rfl, rfl, h1, h2⟩
theorem ReadLi.arg {x : CLi} {d : DLi} {w : World} {lo hi : Nat} (h : ReadLi w lo hi x d) : ArgLi w lo hi (.agg #[.int .i64 x.1, x.2.1, x.2.2]) d := by
  obtain ⟨h0, h1, h2⟩ := h
  exact ⟨x.2.1, x.2.2, by rw [h0], h1, h2⟩
theorem szLinear_u {v : Value} {d : DLi} {left : Int} {w : World} {lo hi : Nat} (h : ArgLi w lo hi v d) (h0 : 0 ≤ left) (h1 : left ≤ 1048576) :
    Calls Try.prog 44 #[v, .int .i64 left] w fun e w' => e = .returned (.int .i64 (szLeft left (totLi d))) ∧ Below w.heap.size w w' := szLinear_b h h0 h1
theorem toLinear_u {v : Value} {d : DLi} {w : World} {lo hi : Nat} (h : ArgLi w lo hi v d) (ht : totLi d ≤ 1048576) :
    Calls Try.prog 46 #[v] w fun e w' => ∃ v', e = .returned v' ∧ FreshLi w' w.heap.size w'.heap.size v' d ∧ Below w.heap.size w w' := by
  obtain ⟨x, rfl, hx⟩ := h.read
  refine (toLinear_a hx ht).mono ?_
  rintro e w' ⟨y, rfl, hy, hb⟩
  exact ⟨_, rfl, ⟨hy.arg, ht⟩, hb⟩
theorem eqLinear_u {v u : Value} {d e : DLi} {w : World} {lo hi lo' hi' : Nat} (h : FreshLi w lo hi v d) (g : FreshLi w lo' hi' u e) :
    Calls Try.prog 48 #[v, u] w fun r w' => r = .returned (.bool (decide (d = e))) ∧ Below w.heap.size w w' := by
  obtain ⟨h, ht⟩ := h
  obtain ⟨g, gt⟩ := g
  obtain ⟨x, rfl, hx⟩ := h.read
  obtain ⟨y, rfl, hy⟩ := g.read
  exact eqLinear_a hx hy ht gt

section
variable {H : Type} {enc : TypeId × Value → H} {P : Program} {w : World} {base : Nat} {spare : Nat → Bool} {held : Bool}

/-- One field of a struct whose fields are a cell each. -/
theorem field1 {t : TypeId} {fs : Array Field} (hs : P.underlying t = some (.struct fs)) (hone : oneCellFields P fs = true) (hC : P.cellsOf t = fs.size) {fuel : Nat} {cs : List Value} {x : DataW H × List MemPlace} (h : DataW.trod enc P w base spare held fuel t cs = some x)
    (i : Nat) (f : Field) (hf : fs[i]? = some f) : ∃ (n : Nat) (c : Value) (y : DataW H × List MemPlace), cs[i]? = some c ∧ DataW.trod enc P w base spare held n f.type [c] = some y ∧ ∀ m ∈ y.2, m ∈ x.2 := by
  obtain ⟨xs, n, _, rfl, hcl, hxl, hg⟩ := DataW.trod_struct hs h
  have hi : i < fs.size := (Array.getElem?_eq_some_iff.1 hf).1
  obtain ⟨o, k⟩ := hone_of hone i f hf
  have g := hg i f hf
  rw [o, k] at g
  have hx : xs[i]? = some xs[i] := List.getElem?_eq_getElem (by omega)
  have hc : cs[i]? = some cs[i] := List.getElem?_eq_getElem (by omega)
  refine ⟨n, cs[i], xs[i], hc, ?_, fun m hm => List.mem_flatMap.2 ⟨xs[i], List.getElem_mem _, hm⟩⟩
  rw [← hx, ← g]
  congr 1
  rw [List.drop_eq_getElem_cons (by omega)]
  rfl

theorem read_I {t e : TypeId} (ht : P.underlying t = some (.slice e)) (hC : P.cellsOf e = 1) (hi : P.underlying e = some (.int .i64)) {fuel : Nat} {c : Value} {r : DataW H × List MemPlace} (h : DataW.trod enc P w base spare held fuel t [c] = some r)
    (hz : ∀ b off, MemPlace.cell b off ∈ r.2 → w.frozen? ⟨b, off, none⟩ = false) : ∃ d, ArgI w base w.heap.size c d := by
  obtain ⟨A, n, k, l, e1, e2, e3, _⟩ := open_flatQ (w := w) (base := base) (spare := spare) (held := held) iv (fun _ => True) ht hC (by omega) (fun fuel cs y hy hl _ => by
    obtain ⟨a, ea, _, _⟩ := DataW.trod_int hi hy
    exact ⟨a, ea, trivial⟩) h hz
  simp at e1
  exact ⟨l, A, n, k, e1, e2, e3⟩

theorem read_T {t e ft : TypeId} {f0 f1 : Field} (ht : P.underlying t = some (.slice e)) (he : P.underlying e = some (.struct #[f0, f1])) (hone : oneCellFields P #[f0, f1] = true) (hC : P.cellsOf e = 2) (h0 : f0.type = ft) (h1 : f1.type = ft) (hi : P.underlying ft = some (.int .i64))
    {fuel : Nat} {c : Value} {r : DataW H × List MemPlace} (h : DataW.trod enc P w base spare held fuel t [c] = some r) (hz : ∀ b off, MemPlace.cell b off ∈ r.2 → w.frozen? ⟨b, off, none⟩ = false) : ∃ d, ArgT w base w.heap.size c d := by
  obtain ⟨A, n, k, l, e1, e2, e3, _⟩ := open_flatQ (w := w) (base := base) (spare := spare) (held := held) tv (fun _ => True) ht hC (by omega) (fun fuel cs y hy hl _ => by
    obtain ⟨x, hx⟩ := two_ints he hone h0 h1 hi fuel cs y hy hl
    exact ⟨x, hx, trivial⟩) h hz
  simp at e1
  exact ⟨l, A, n, k, e1, e2, e3⟩

theorem read_TT {t s e ft : TypeId} {f0 f1 : Field} (ht : P.underlying t = some (.slice s)) (hs : P.underlying s = some (.slice e)) (he : P.underlying e = some (.struct #[f0, f1])) (hone : oneCellFields P #[f0, f1] = true) (hC : P.cellsOf e = 2) (hC1 : P.cellsOf s = 1) (h0 : f0.type = ft) (h1 : f1.type = ft) (hi : P.underlying ft = some (.int .i64))
    {fuel : Nat} {c : Value} {r : DataW H × List MemPlace} (h : DataW.trod enc P w base spare held fuel t [c] = some r) (hz : ∀ b off, MemPlace.cell b off ∈ r.2 → w.frozen? ⟨b, off, none⟩ = false) : ∃ d, ArgTT w base w.heap.size c d := by
  have hshape : ∃ A n k, c = .slice A n k := by
    rcases open_slice ht h with ⟨hc, _⟩ | ⟨a, len, cap, m, n, D, Pl, hc, _⟩
    · simp at hc; exact ⟨_, _, _, hc⟩
    · simp at hc; exact ⟨_, _, _, hc⟩
  obtain ⟨A, n, k, rfl⟩ := hshape
  exact open_TT ht hs he hone hC hC1 h0 h1 hi ⟨fuel, h⟩ rfl hz

end

set_option maxRecDepth 100000 in
theorem open_Li {H : Type} {enc : TypeId × Value → H} {w : World} {base wbase : Nat} {spare : Nat → Bool} {held : Bool} {v : Value} {d : DataW H} {p : List MemPlace} {w0 : World} {r0 : Reach} (hw : Value.okWide Try.prog w0 r0 wbase 61 v)
    (h : DataW.Trod enc Try.prog w base spare held 61 v d p) (hz : ∀ b off, MemPlace.cell b off ∈ p → w.frozen? ⟨b, off, none⟩ = false) : ∃ x, ArgLi w base w.heap.size v x := by
  obtain ⟨cs, rfl, hsz⟩ := okWide_struct Try.underlying61 hw
  obtain ⟨fuel, hf⟩ := h
  have hsz3 : cs.size = 3 := hsz
  have hf' : DataW.trod enc Try.prog w base spare held fuel 61 cs.toList = some (d, p) := hf
  obtain ⟨m0, c0, y0, g0, t0, p0⟩ := field1 Try.underlying61 (by kernel_rfl) (by kernel_rfl) hf' 0 _ rfl
  obtain ⟨m1, c1, y1, g1, t1, p1⟩ := field1 Try.underlying61 (by kernel_rfl) (by kernel_rfl) hf' 1 _ rfl
  obtain ⟨m2, c2, y2, g2, t2, p2⟩ := field1 Try.underlying61 (by kernel_rfl) (by kernel_rfl) hf' 2 _ rfl
  obtain ⟨a, ea, _, _⟩ := DataW.trod_int Try.underlying2 t0
  obtain ⟨d1, r1⟩ := read_I Try.underlying44 (by kernel_rfl) Try.underlying2 t1 (fun b off hp => hz b off (p1 _ hp))
  have key := open_flatQ (w := w) (base := base) (spare := spare) (held := held) (fun r : CSu × DSu => cellsSu r.1) (fun r => ReadSu w base w.heap.size r.1 r.2) Try.underlying59 (by kernel_rfl) (show 0 < 5 by omega) (fun fuel cs y hy hl hz' => by
    obtain ⟨i0, b0, z0, q0, s0, u0⟩ := field1 Try.underlying122 (by kernel_rfl) (by kernel_rfl) hy 0 _ rfl
    obtain ⟨i1, b1, z1, q1, s1, u1⟩ := field1 Try.underlying122 (by kernel_rfl) (by kernel_rfl) hy 1 _ rfl
    obtain ⟨i2, b2, z2, q2, s2, u2⟩ := field1 Try.underlying122 (by kernel_rfl) (by kernel_rfl) hy 2 _ rfl
    obtain ⟨i3, b3, z3, q3, s3, u3⟩ := field1 Try.underlying122 (by kernel_rfl) (by kernel_rfl) hy 3 _ rfl
    obtain ⟨i4, b4, z4, q4, s4, u4⟩ := field1 Try.underlying122 (by kernel_rfl) (by kernel_rfl) hy 4 _ rfl
    obtain ⟨e0, f0⟩ := read_I Try.underlying44 (by kernel_rfl) Try.underlying2 s0 (fun b off hp => hz' b off (u0 _ hp))
    obtain ⟨e1, f1⟩ := read_T Try.underlying22 Try.underlying74 (by kernel_rfl) (by kernel_rfl) rfl rfl Try.underlying2 s1 (fun b off hp => hz' b off (u1 _ hp))
    obtain ⟨e2, f2, _, n2⟩ := DataW.trod_string Try.underlying9 s2
    obtain ⟨e3, f3⟩ := read_TT Try.underlying36 Try.underlying22 Try.underlying74 (by kernel_rfl) (by kernel_rfl) (by kernel_rfl) rfl rfl Try.underlying2 s3 (fun b off hp => hz' b off (u3 _ hp))
    obtain ⟨e4, f4⟩ := read_TT Try.underlying36 Try.underlying22 Try.underlying74 (by kernel_rfl) (by kernel_rfl) (by kernel_rfl) rfl rfl Try.underlying2 s4 (fun b off hp => hz' b off (u4 _ hp))
    match cs, hl with
    | [k0, k1, k2, k3, k4], _ =>
      simp at q0 q1 q2 q3 q4 f2
      subst q0 q1 q2 q3 q4 f2
      exact ⟨((k0, k1, e2, k3, k4), (e0, e1, e2, e3, e4)), rfl, f0, f1, ⟨rfl, n2⟩, f3, f4⟩) t2 (fun b off hp => hz b off (p2 _ hp))
  obtain ⟨A, n, k, l, x1, x2, x3, x4⟩ := key
  obtain ⟨cs⟩ := cs
  match cs, hsz3 with
  | [k0, k1, k2], _ =>
    simp at g0 g1 g2 ea x1
    subst g0 g1 g2 ea x1
    refine ⟨(a, d1, l.map (·.2)), _, _, rfl, r1, A, n, k, l, rfl, x2, ⟨⟨by rw [List.length_map]; exact x3.1, fun hp => ?_⟩, fun r hr => x4 r hr⟩, rfl⟩
    obtain ⟨b, off, y1, y2, y3, y4, y5⟩ := x3.2 hp
    refine ⟨b, off, y1, y2, y3, y4, fun k x hx j u hu => ?_⟩
    rw [List.getElem?_map] at hx
    obtain ⟨r, hr1, rfl⟩ := Option.map_eq_some_iff.1 hx
    exact y5 k r hr1 j u hu

end Go.Proofs.Ytdjhpdmpibokhaa
