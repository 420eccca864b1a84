/-
  Lists of lists of terms as arguments of a law: the helpers' contracts in one shape. Conditions: none.
-/
import Derived.Test.YtdjhpdmpibokhaaBoilTT
import Derived.Test.YtdjhpdmpibokhaaOpenG
namespace Go.Proofs.Ytdjhpdmpibokhaa
open Go.ChangeShapes Go.WideShapes Go.ChangeAt Go.RowKit Go.Deep
set_option linter.unusedVariables false

abbrev DTT := List (List (Int × Int))
def totTT (d : DTT) : Nat := d.length + (d.map List.length).sum
/-- v reads as d. -/
def ArgTT (w : World) (lo hi : Nat) (v : Value) (d : DTT) : Prop := ∃ A n c R, v = .slice A n c ∧ n ≤ maxLen ∧ RowsT maxLen w lo hi A n R ∧ R.map (·.2) = d
/-- v reads as d, in memory of its own. -/
def FreshTT (w : World) (lo hi : Nat) (v : Value) (d : DTT) : Prop := ∃ A n R, v = .slice A n n ∧ NestT w lo hi A n R ∧ R.map (·.2) = d ∧ totTT d ≤ 1048576

theorem preG_tot {β α : Type} {hd : β → Hd} {osz : Nat} {g : β → List Value} {size most : Nat} {f : α → List Value} {w : World} {lo hi n : Nat} {A : Option Addr} {R : List (β × List α)} (h : RowsG hd osz g size f most w lo hi A n R) :
    preG hd R n = ((R.map (·.2)).map List.length).sum := by
  unfold preG
  rw [List.take_of_length_le (by rw [h.len]; exact Nat.le_refl _), List.map_map]
  congr 1
  apply List.map_congr_left
  intro r hr
  exact (h.rows r hr).1.len.symm
theorem totTT_of {R : List (Hd × List (Int × Int))} {most : Nat} {w : World} {lo hi n : Nat} {A : Option Addr} (h : RowsT most w lo hi A n R) : n + preG id R n = totTT (R.map (·.2)) := by
  unfold totTT
  rw [preG_tot h, List.length_map, h.len]

theorem ArgTT.below {w w' : World} {lo hi B : Nat} {v : Value} {d : DTT} (h : ArgTT w lo hi v d) (hb : Below B w w') (hB : hi ≤ B ∨ w.heap.size ≤ B) : ArgTT w' lo hi v d := by
  obtain ⟨A, n, c, R, h1, h2, h3, h4⟩ := h
  exact ⟨A, n, c, R, h1, h2, h3.below hb hB, h4⟩
theorem ArgTT.only {w w' : World} {lo hi lo' hi' : Nat} {v : Value} {d : DTT} (h : ArgTT w lo hi v d) (g : Only lo' hi' w w') (hd : hi ≤ lo' ∨ hi' ≤ lo) : ArgTT w' lo hi v d := by
  obtain ⟨A, n, c, R, h1, h2, h3, h4⟩ := h
  exact ⟨A, n, c, R, h1, h2, h3.only g hd, h4⟩
theorem FreshTT.below {w w' : World} {lo hi B : Nat} {v : Value} {d : DTT} (h : FreshTT w lo hi v d) (hb : Below B w w') (hB : hi ≤ B ∨ w.heap.size ≤ B) : FreshTT w' lo hi v d := by
  obtain ⟨A, n, R, h1, h2, h3⟩ := h
  exact ⟨A, n, R, h1, h2.below hb hB, h3⟩
theorem FreshTT.only {w w' : World} {lo hi lo' hi' : Nat} {v : Value} {d : DTT} (h : FreshTT w lo hi v d) (g : Only lo' hi' w w') (hd : hi ≤ lo' ∨ hi' ≤ lo) : FreshTT w' lo hi v d := by
  obtain ⟨A, n, R, h1, h2, h3⟩ := h
  exact ⟨A, n, R, h1, h2.only g hd, h3⟩

theorem szTermSS_u {v : Value} {d : DTT} {left : Int} {w : World} {lo hi : Nat} (h : ArgTT w lo hi v d) (h0 : 0 ≤ left) (h1 : left ≤ 1048576) :
    Calls Try.prog 25 #[v, .int .i64 left] w fun e w' => e = .returned (.int .i64 (szLeft left (totTT d))) ∧ w = w' := by
  obtain ⟨A, n, c, R, rfl, hn, hR, rfl⟩ := h
  rw [← totTT_of hR]
  exact szTermSS_calls A n c R left w lo hi hR hn h0 h1

theorem toTermSS_u {v : Value} {d : DTT} {w : World} {lo hi : Nat} (h : ArgTT w lo hi v d) (ht : totTT d ≤ 1048576) :
    Calls Try.prog 27 #[v] w fun e w' => ∃ v', e = .returned v' ∧ FreshTT w' w.heap.size w'.heap.size v' d ∧ Below w.heap.size w w' := by
  obtain ⟨A, n, c, R, rfl, hn, hR, rfl⟩ := h
  have htot := totTT_of hR
  refine (toTermSS_calls A n c R w lo hi (hR.upto (preG_all hR.len (m := 1048576) (by omega))) (by omega)).mono ?_
  rintro e w' ⟨A', rfl, hb, R', hN, hR'⟩
  exact ⟨_, rfl, ⟨A', n, R', rfl, hN, hR', ht⟩, hb⟩

theorem eqTermSS_u {v u : Value} {d e : DTT} {w : World} {lo hi lo' hi' : Nat} (h : FreshTT w lo hi v d) (g : FreshTT w lo' hi' u e) :
    Calls Try.prog 29 #[v, u] w fun r w' => r = .returned (.bool (decide (d = e))) ∧ Below w.heap.size w w' := by
  obtain ⟨A, n, R, rfl, h1, rfl, h2⟩ := h
  obtain ⟨B, m, S, rfl, g1, rfl, g2⟩ := g
  have t1 := totTT_of h1.all
  have t2 := totTT_of g1.all
  exact eqTermSS_calls A B n m n m R S w lo hi lo' hi' h1.all g1.all (by omega) (by omega)

theorem markTermSS_u {v : Value} {d : DTT} {m : Int} {w : World} {lo hi : Nat} (h : FreshTT w lo hi v d) (h0 : 0 ≤ m) (h1 : m ≤ 549755813888) :
    Calls Try.prog 30 #[v, .int .i64 m] w fun e w' => ∃ m', e = .returned (.int .i64 m') ∧ m ≤ m' ∧ m' ≤ m + 8388608 ∧ Only lo hi w w' := by
  obtain ⟨A, n, R, rfl, h2, rfl, h3⟩ := h
  have t1 := totTT_of h2.all
  refine (markTermSS_calls A n n R m w lo hi h2 (by omega) h0 (by omega)).mono ?_
  rintro e w' ⟨rfl, R', _, _, ho⟩
  exact ⟨_, rfl, by omega, by omega, ho⟩

section
variable {H : Type} {enc : TypeId × Value → H} {P : Program} {w : World} {base : Nat} {spare : Nat → Bool} {held : Bool}
theorem open_TT {t s e ft : TypeId} {f0 f1 : Field} (ht : P.underlying t = some (.slice s)) (hs : P.underlying s = some (.slice e)) (he : P.underlying e = some (.struct #[f0, f1])) (hone : oneCellFields P #[f0, f1] = true) (hC : P.cellsOf e = 2) (hC1 : P.cellsOf s = 1)
    (h0 : f0.type = ft) (h1 : f1.type = ft) (hi : P.underlying ft = some (.int .i64)) {v : Value} {d : DataW H} {p : List MemPlace} (h : DataW.Trod enc P w base spare held t v d p) {n' c' : Nat} {A' : Option Addr} (hv : v = .slice A' n' c')
    (hz : ∀ b off, MemPlace.cell b off ∈ p → w.frozen? ⟨b, off, none⟩ = false) : ∃ x, ArgTT w base w.heap.size v x := by
  obtain ⟨fuel, hf⟩ := h
  obtain ⟨A, n, c, l, e1, e2, e3, e4⟩ := open_flatQ (w := w) (base := base) (spare := spare) (held := held) (fun r : Hd × List (Int × Int) => sv r.1) (fun r => SlT w base w.heap.size r.1.1 r.1.2.1 r.2 ∧ r.1.2.1 ≤ maxLen) ht hC1 (by omega) (fun fuel cs y hy _ hz' => by
    obtain ⟨A, n, c, l, e1, e2, e3, _⟩ := open_flatQ (w := w) (base := base) (spare := spare) (held := held) tv (fun _ => True) hs hC (by omega) (fun fuel cs y hy hl _ => by
      obtain ⟨x, hx⟩ := two_ints he hone h0 h1 hi fuel cs y hy hl
      exact ⟨x, hx, trivial⟩) hy hz'
    exact ⟨((A, n, c), l), e1, e3, e2⟩) hf hz
  subst hv
  simp [Value.cells] at e1
  obtain ⟨rfl, rfl, rfl⟩ := e1
  refine ⟨l.map (·.2), _, _, _, l, rfl, e2, ⟨⟨by rw [List.length_map]; exact e3.1, fun hp => ?_⟩, fun r hr => e4 r hr⟩, rfl⟩
  obtain ⟨b, off, q1, q2, q3, q4, q5⟩ := e3.2 hp
  refine ⟨b, off, q1, q2, q3, q4, fun k x hx j u hu => ?_⟩
  rw [List.getElem?_map] at hx
  obtain ⟨r, hr1, rfl⟩ := Option.map_eq_some_iff.1 hx
  exact q5 k r hr1 j u hu
end

end Go.Proofs.Ytdjhpdmpibokhaa
