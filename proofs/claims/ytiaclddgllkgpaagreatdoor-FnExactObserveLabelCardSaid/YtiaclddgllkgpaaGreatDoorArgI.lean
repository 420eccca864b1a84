/-
  Lists of int64 as fields of a law's arguments, and readings of fields. Conditions: none.
-/
import Derived.Test.YtiaclddgllkgpaaGreatDoorBoilI
import Derived.Test.YtiaclddgllkgpaaGreatDoorOpenG
import Derived.Test.YtiaclddgllkgpaaGreatDoorNestG
namespace Go.Proofs.YtiaclddgllkgpaaGreatDoor
open Go.ChangeShapes Go.WideShapes Go.ChangeAt Go.RowKit Go.Deep
set_option linter.unusedVariables false

/-- What a size helper leaves. -/
def szLeft (left : Int) (tot : Nat) : Int := if left < tot then -1 else left - tot
theorem szLeft_big {left : Int} {tot : Nat} (h : left < tot) : szLeft left tot = -1 := if_pos h
theorem szLeft_fits {left : Int} {tot : Nat} (h : ¬ left < tot) : szLeft left tot = left - tot := if_neg h

def ArgI (w : World) (lo hi : Nat) (v : Value) (d : List Int) : Prop := ∃ A n c, v = .slice A n c ∧ n ≤ maxLen ∧ SlI w lo hi A n d
section
variable {w w' : World} {lo hi lo' hi' B : Nat} {v : Value} {d : List Int}
theorem ArgI.shape (h : ArgI w lo hi v d) : ∃ A n c, v = .slice A n c := by obtain ⟨A, n, c, h1, _⟩ := h; exact ⟨A, n, c, h1⟩
theorem ArgI.below (h : ArgI w lo hi v d) (hb : Below B w w') (hB : hi ≤ B ∨ w.heap.size ≤ B) : ArgI w' lo hi v d := by
  obtain ⟨A, n, c, h1, h2, h3⟩ := h
  exact ⟨A, n, c, h1, h2, h3.below hb hB⟩
theorem ArgI.more (h : ArgI w lo hi v d) (h1 : lo' ≤ lo) (h2 : hi ≤ hi') : ArgI w lo' hi' v d := by
  obtain ⟨A, n, c, q1, q2, q3⟩ := h
  exact ⟨A, n, c, q1, q2, q3.more h1 h2⟩
theorem ArgI.only (h : ArgI w lo hi v d) (g : Only lo' hi' w w') (hd : hi ≤ lo' ∨ hi' ≤ lo) : ArgI w' lo hi v d := by
  obtain ⟨A, n, c, h1, h2, h3⟩ := h
  exact ⟨A, n, c, h1, h2, h3.only g hd⟩
end

theorem szInt64S_calls (A : Option Addr) (n c : Nat) (left : Int) (w : World) (hn : n ≤ maxLen) (h0 : 0 ≤ left) (h1 : left ≤ 1048576) :
    Calls Tryz.prog 56 #[.slice A n c, .int .i64 left] w fun e w' => e = .returned (.int .i64 (szLeft left n)) ∧ w = w' := by
  unfold maxLen at hn
  by_cases h : left < n
  · go_enter Tryz.func56, Tryz.ntmps56
    go_wp2
    go_ret
    exact ⟨by rw [szLeft_big h]; rfl, rfl⟩
  · go_enter Tryz.func56, Tryz.ntmps56
    go_wp2
    go_ret
    exact ⟨by rw [szLeft_fits (by omega)]; rfl, rfl⟩
theorem toInt64S_a {v : Value} {d : List Int} {w : World} {lo hi : Nat} (h : ArgI w lo hi v d) (ht : d.length ≤ 1048576) :
    Calls Tryz.prog 58 #[v] w fun e w' => ∃ v', e = .returned v' ∧ ArgI w' w.heap.size w'.heap.size v' d ∧ Below w.heap.size w w' := by
  obtain ⟨A, n, c, rfl, h2, h3⟩ := h
  have hl := h3.len
  refine (toInt64S_calls A n c d w lo hi h3 (by omega)).mono ?_
  rintro e w' ⟨A', rfl, hb, hs⟩
  exact ⟨_, rfl, ⟨A', n, n, rfl, h2, hs⟩, hb⟩
theorem eqInt64S_a {v u : Value} {d e : List Int} {w : World} {lo hi lo' hi' : Nat} (h : ArgI w lo hi v d) (g : ArgI w lo' hi' u e) (hs : d.length ≤ 1048576) (gs : e.length ≤ 1048576) :
    Calls Tryz.prog 26 #[v, u] w fun r w' => r = .returned (.bool (decide (d = e))) ∧ Below w.heap.size w w' := by
  obtain ⟨A, n, c, rfl, h1, h2⟩ := h
  obtain ⟨B, m, b, rfl, g1, g2⟩ := g
  exact eqInt64S_calls A B n m c b d e w lo hi lo' hi' h2 g2 h1 g1

section
variable {H : Type} {enc : TypeId × Value → H} {P : Program} {w : World} {base : Nat} {spare : Nat → Bool} {held : Bool}
/-- One field of a struct whose fields are a cell each. -/
theorem field1 {t : TypeId} {fs : Array Field} (hs : P.underlying t = some (.struct fs)) (hone : oneCellFields P fs = true) (hC : P.cellsOf t = fs.size) {fuel : Nat} {cs : List Value} {x : DataW H × List MemPlace} (h : DataW.trod enc P w base spare held fuel t cs = some x)
    (i : Nat) (f : Field) (hf : fs[i]? = some f) : ∃ (n : Nat) (c : Value) (y : DataW H × List MemPlace), cs[i]? = some c ∧ DataW.trod enc P w base spare held n f.type [c] = some y ∧ ∀ m ∈ y.2, m ∈ x.2 := by
  obtain ⟨xs, n, _, rfl, hcl, hxl, hg⟩ := DataW.trod_struct hs h
  have hi : i < fs.size := (Array.getElem?_eq_some_iff.1 hf).1
  obtain ⟨o, k⟩ := hone_of hone i f hf
  have g := hg i f hf
  rw [o, k] at g
  have hx : xs[i]? = some xs[i] := List.getElem?_eq_getElem (by omega)
  have hc : cs[i]? = some cs[i] := List.getElem?_eq_getElem (by omega)
  refine ⟨n, cs[i], xs[i], hc, ?_, fun m hm => List.mem_flatMap.2 ⟨xs[i], List.getElem_mem _, hm⟩⟩
  rw [← hx, ← g]
  congr 1
  rw [List.drop_eq_getElem_cons (by omega)]
  rfl
theorem read_I {t e : TypeId} (ht : P.underlying t = some (.slice e)) (hC : P.cellsOf e = 1) (hi : P.underlying e = some (.int .i64)) {fuel : Nat} {c : Value} {r : DataW H × List MemPlace} (h : DataW.trod enc P w base spare held fuel t [c] = some r)
    (hz : ∀ b off, MemPlace.cell b off ∈ r.2 → w.frozen? ⟨b, off, none⟩ = false) : ∃ d, ArgI w base w.heap.size c d := by
  obtain ⟨A, n, k, l, e1, e2, e3, _⟩ := open_flatQ (w := w) (base := base) (spare := spare) (held := held) iv (fun _ => True) ht hC (by omega) (fun fuel cs y hy hl _ => by
    obtain ⟨a, ea, _, _⟩ := DataW.trod_int hi hy
    exact ⟨a, ea, trivial⟩) h hz
  simp at e1
  exact ⟨l, A, n, k, e1, e2, e3⟩
end

theorem preG_tot {β α : Type} {hd : β → Hd} {osz : Nat} {g : β → List Value} {size most : Nat} {f : α → List Value} {w : World} {lo hi n : Nat} {A : Option Addr} {R : List (β × List α)} (h : RowsG hd osz g size f most w lo hi A n R) :
    preG hd R n = ((R.map (·.2)).map List.length).sum := by
  unfold preG
  rw [List.take_of_length_le (by rw [h.len]; exact Nat.le_refl _), List.map_map]
  congr 1
  apply List.map_congr_left
  intro r hr
  exact (h.rows r hr).1.len.symm

theorem handles_setG {β α : Type} {hd : β → Hd} {R : List (β × List α)} {k : Nat} {x x' : β} {s s' : List α} (hr : R[k]? = some (x, s)) (hx : hd x' = hd x) : (R.set k (x', s')).map (fun r => hd r.1) = R.map (fun r => hd r.1) := by
  apply List.ext_getElem?
  intro i
  rw [List.getElem?_map, List.getElem?_map]
  by_cases hi : k = i
  · subst hi
    rw [List.getElem?_set_self (List.getElem?_eq_some_iff.1 hr).1, hr]
    simp [hx]
  · rw [List.getElem?_set_ne hi]

/-- Cells written one behind the other. -/
def putCells (w : World) (b : Nat) : Nat → List Value → World
  | _, [] => w
  | off, u :: us => putCells (w.setCell ⟨b, off, none⟩ u) b (off + 1) us

theorem putCells_row (b : Nat) (t : TypeId) (us : List Value) : ∀ (w : World) (off : Nat) (cur : Array Value), w.heap[b]? = some (.cells cur t (0, 0)) →
    ∃ cur', (putCells w b off us).heap[b]? = some (.cells cur' t (0, 0)) ∧ cur'.size = cur.size ∧ (∀ i, i < off → cur'[i]? = cur[i]?) ∧ (∀ j u, us[j]? = some u → off + us.length ≤ cur.size → cur'[off + j]? = some u) := by
  induction us with
  | nil => exact fun w off cur h => ⟨cur, h, rfl, fun _ _ => rfl, fun j u hu => by simp at hu⟩
  | cons v us ih =>
    intro w off cur h
    obtain ⟨cur', h1, h2, h3, h4⟩ := ih (w.setCell ⟨b, off, none⟩ v) (off + 1) (cur.setIfInBounds off v) (heap_setCell_same w b off cur t v h)
    refine ⟨cur', h1, by rw [h2]; simp, fun i hi => ?_, fun j u hu hl => ?_⟩
    · rw [h3 i (by omega), Array.getElem?_setIfInBounds_ne (by omega)]
    · simp only [List.length_cons] at hl
      cases j with
      | zero =>
        simp at hu
        subst hu
        rw [Nat.add_zero, h3 off (by omega)]
        simp [Array.getElem?_setIfInBounds]
        omega
      | succ j =>
        simp at hu
        have := h4 j u hu (by simp; omega)
        rwa [show off + (j + 1) = off + 1 + j by omega]
theorem putCells_only (b : Nat) (us : List Value) : ∀ (w : World) (off : Nat), Only b (b + 1) w (putCells w b off us) := by
  induction us with
  | nil => exact fun w _ => Only.refl _ _ _
  | cons v us ih => exact fun w off => ((Only.refl b (b + 1) w).setCell (p := ⟨b, off, none⟩) (Nat.le_refl _) (Nat.lt_succ_self _) v).trans (ih _ _)
/-- Element k laid by putCells. -/
theorem Fill.putN {α : Type} {size : Nat} {f : α → List Value} {w : World} {B n k : Nat} {t : TypeId} {l : List α} (h : Fill size f w B t n k l) (hk : k < n) (hlen : ∀ x, (f x).length = size) {x : α} (hx : l[k]? = some x) :
    Fill size f (putCells w B (k * size) (f x)) B t n (k + 1) l :=
  h.step hlen hx fun cur hc hs => by
    obtain ⟨cur', h1, h2, h3, h4⟩ := putCells_row B t (f x) w (k * size) cur hc
    refine ⟨cur', h1, h2, h3, fun j u hu => h4 j u hu ?_⟩
    rw [hlen x, hs]
    have := Nat.mul_le_mul_right size (show k + 1 ≤ n by omega)
    rw [Nat.add_mul] at this
    omega
/-- The first cells of an element of a row that is there written anew. -/
theorem Sl.putPre {α : Type} {size : Nat} {f : α → List Value} {w : World} {lo hi n b off : Nat} {l : List α} (h : Sl size f w lo hi (some ⟨b, off, none⟩) n l) {k : Nat} {x0 : α} (hx0 : l[k]? = some x0) (hlen : ∀ x, (f x).length = size) (x : α)
    (us : List Value) (hus : us.length ≤ size) (hpre : ∀ j u, j < us.length → (f x)[j]? = some u → us[j]? = some u) (hrest : ∀ j u, us.length ≤ j → (f x)[j]? = some u → (f x0)[j]? = some u) :
    Sl size f (putCells w b (off + k * size) us) lo hi (some ⟨b, off, none⟩) n (l.set k x) := by
  have key : ∀ (us : List Value) (W : World) (o : Nat),
      (∀ (q : Addr), (putCells W b o us).frozen? q = W.frozen? q) ∧ (putCells W b o us).heap.size = W.heap.size ∧
      (∀ i, (i < o ∨ o + us.length ≤ i) → (putCells W b o us).cell? ⟨b, i, none⟩ = W.cell? ⟨b, i, none⟩) ∧
      ((∀ j, j < us.length → ∃ v, W.cell? ⟨b, o + j, none⟩ = some v) → ∀ j u, us[j]? = some u → (putCells W b o us).cell? ⟨b, o + j, none⟩ = some u) := by
    intro us
    induction us with
    | nil => exact fun W o => ⟨fun _ => rfl, rfl, fun _ _ => rfl, fun _ j u hu => by simp at hu⟩
    | cons v us ih =>
      intro W o
      obtain ⟨i1, i2, i3, i4⟩ := ih (W.setCell ⟨b, o, none⟩ v) (o + 1)
      refine ⟨fun q => (i1 q).trans (World.frozen?_setCell W _ q v), by rw [putCells, i2, World.size_setCell], fun i hi => ?_, fun hc j u hu => ?_⟩
      · simp only [List.length_cons] at hi
        refine (i3 i (by omega)).trans (World.cell?_setCell_other _ _ _ _ (by intro e; injection e with _ e _; omega))
      · cases j with
        | zero =>
          simp at hu
          subst hu
          obtain ⟨v0, hv0⟩ := hc 0 (by simp)
          exact (i3 o (by omega)).trans (World.cell?_setCell_same _ _ _ hv0)
        | succ j =>
          simp at hu
          have := i4 (fun j hj => by
            obtain ⟨v1, hv1⟩ := hc (j + 1) (by simp; omega)
            exact ⟨v1, (World.cell?_setCell_other _ _ _ _ (by intro e; injection e with _ e _; omega)).trans (by rw [← hv1]; congr 2; omega)⟩) j u hu
          rw [show o + (j + 1) = o + 1 + j by omega]
          exact this
  obtain ⟨k1, k2, k3, k4⟩ := key us w (off + k * size)
  have hkl : k < l.length := (List.getElem?_eq_some_iff.1 hx0).1
  have hll := h.len
  refine ⟨by rw [List.length_set]; exact h.len, fun _ => ?_⟩
  obtain ⟨b', off', e, g1, g2, g3, hc⟩ := h.at_ (by omega)
  cases e
  refine ⟨b, off, rfl, g1, g2, by rw [k2]; exact g3, fun i z hz j u hu => ?_⟩
  have hj : j < size := by rw [← hlen z]; exact (List.getElem?_eq_some_iff.1 hu).1
  rw [k1]
  by_cases hik : i = k
  · subst hik
    rw [List.getElem?_set_self hkl] at hz
    cases hz
    have hold := hc i x0 hx0
    have hex : ∀ j, j < us.length → ∃ v, w.cell? ⟨b, off + (i * size + j), none⟩ = some v ∧ w.frozen? ⟨b, off + (i * size + j), none⟩ = false := fun j hj => 
      ⟨_, hold j _ (List.getElem?_eq_getElem (by rw [hlen]; omega))⟩
    rcases Nat.lt_or_ge j us.length with hju | hju
    · refine ⟨?_, (hex j hju).choose_spec.2⟩
      rw [← Nat.add_assoc]
      exact k4 (fun j hj => by rw [Nat.add_assoc]; exact ⟨_, (hex j hj).choose_spec.1⟩) j u (hpre j u hju hu)
    · obtain ⟨h1, h2⟩ := hold j u (hrest j u hju hu)
      refine ⟨?_, h2⟩
      rw [k3 _ (by omega)]
      exact h1
  · have hil : i < l.length := by
      have := (List.getElem?_eq_some_iff.1 hz).1
      rwa [List.length_set] at this
    rw [List.getElem?_set_ne (by omega)] at hz
    obtain ⟨h1, h2⟩ := hc i z hz j u hu
    refine ⟨?_, h2⟩
    rw [k3 _ ?_]
    · exact h1
    · rcases Nat.lt_or_ge i k with hlt | hge
      · have := Nat.mul_le_mul_right size (show i + 1 ≤ k by omega)
        rw [Nat.add_mul] at this
        omega
      · have := Nat.mul_le_mul_right size (show k + 1 ≤ i by omega)
        rw [Nat.add_mul] at this
        omega
theorem Sl.putN {α : Type} {size : Nat} {f : α → List Value} {w : World} {lo hi n b off : Nat} {l : List α} (h : Sl size f w lo hi (some ⟨b, off, none⟩) n l) {k : Nat} (hk : k < n) (hlen : ∀ x, (f x).length = size) (x : α) :
    Sl size f (putCells w b (off + k * size) (f x)) lo hi (some ⟨b, off, none⟩) n (l.set k x) :=
  h.putPre (x0 := l[k]'(by rw [h.len]; exact hk)) (List.getElem?_eq_getElem _) hlen x (f x) (by rw [hlen]; exact Nat.le_refl _) (fun _ _ _ h => h) (fun j u hj hu => by
    have := (List.getElem?_eq_some_iff.1 hu).1
    omega)

end Go.Proofs.YtiaclddgllkgpaaGreatDoor
