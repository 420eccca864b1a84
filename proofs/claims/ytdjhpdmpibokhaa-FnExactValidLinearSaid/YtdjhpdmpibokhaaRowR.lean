/-
  Words for rows of structs that lead into further memory (Rd tells what a struct's cells read as), and such a row being made. Conditions: none.
-/
import Derived.Test.YtdjhpdmpibokhaaNestG
namespace Go.Proofs.Ytdjhpdmpibokhaa
open Go.RowKit

/-- What a reading keeps through. -/
structure RdLaws {β δ : Type} (Rd : World → Nat → Nat → β → δ → Prop) : Prop where
  below : ∀ {w w' : World} {lo hi B : Nat} {x : β} {d : δ}, Rd w lo hi x d → Below B w w' → (hi ≤ B ∨ w.heap.size ≤ B) → Rd w' lo hi x d
  only : ∀ {w w' : World} {lo hi lo' hi' : Nat} {x : β} {d : δ}, Rd w lo hi x d → Only lo' hi' w w' → (hi ≤ lo' ∨ hi' ≤ lo) → Rd w' lo hi x d
  more : ∀ {w : World} {lo hi lo' hi' : Nat} {x : β} {d : δ}, Rd w lo hi x d → lo' ≤ lo → hi ≤ hi' → Rd w lo' hi' x d

structure RowR {β δ : Type} (Rd : World → Nat → Nat → β → δ → Prop) (osz : Nat) (g : β → List Value) (w : World) (lo hi : Nat) (A : Option Addr) (n : Nat) (R : List (β × δ)) : Prop where
  outer : Sl osz g w lo hi A n (R.map (·.1))
  rows : ∀ r ∈ R, Rd w lo hi r.1 r.2

/-- Such a row being made in block B, the first k laid. -/
structure RowF {β δ : Type} (Rd : World → Nat → Nat → β → δ → Prop) (osz : Nat) (g : β → List Value) (w : World) (B : Nat) (t : TypeId) (n k : Nat) (R : List (β × δ)) : Prop where
  len : R.length = k
  fill : Fill osz g w B t n k (R.map (·.1))
  rows : ∀ r ∈ R, Rd w (B + 1) w.heap.size r.1 r.2

section
variable {β δ : Type} {Rd : World → Nat → Nat → β → δ → Prop} {osz : Nat} {g : β → List Value} {w w' w1 w2 : World} {lo hi lo' hi' n k B : Nat} {A : Option Addr} {R : List (β × δ)} {t : TypeId}

theorem RowR.len (h : RowR Rd osz g w lo hi A n R) : R.length = n := by have := h.outer.len; rwa [List.length_map] at this
theorem RowR.below (L : RdLaws Rd) (h : RowR Rd osz g w lo hi A n R) (hb : Below B w w') (hB : hi ≤ B ∨ w.heap.size ≤ B) : RowR Rd osz g w' lo hi A n R := ⟨h.outer.below hb hB, fun r hr => L.below (h.rows r hr) hb hB⟩
theorem RowR.only (L : RdLaws Rd) (h : RowR Rd osz g w lo hi A n R) (o : Only lo' hi' w w') (hd : hi ≤ lo' ∨ hi' ≤ lo) : RowR Rd osz g w' lo hi A n R := ⟨h.outer.only o hd, fun r hr => L.only (h.rows r hr) o hd⟩
theorem RowR.more (L : RdLaws Rd) (h : RowR Rd osz g w lo hi A n R) (h1 : lo' ≤ lo) (h2 : hi ≤ hi') : RowR Rd osz g w lo' hi' A n R := ⟨h.outer.more h1 h2, fun r hr => L.more (h.rows r hr) h1 h2⟩
theorem RowR.get (h : RowR Rd osz g w lo hi A n R) (hk : k < n) :
    ∃ b off x d, A = some ⟨b, off, none⟩ ∧ lo ≤ b ∧ b < hi ∧ b < w.heap.size ∧ R[k]? = some (x, d) ∧ (∀ (j : Nat) (u : Value), (g x)[j]? = some u → w.cell? ⟨b, off + (k * osz + j), none⟩ = some u) ∧ Rd w lo hi x d := by
  obtain ⟨b, off, e, g1, g2, g3, hc⟩ := h.outer.at_ (by omega)
  have hkl : k < R.length := by rw [h.len]; exact hk
  obtain ⟨⟨x, d⟩, hr⟩ : ∃ r, R[k]? = some r := ⟨_, List.getElem?_eq_getElem hkl⟩
  exact ⟨b, off, x, d, e, g1, g2, g3, hr, fun j u hu => (hc k x (by rw [List.getElem?_map, hr]; rfl) j u hu).1, h.rows _ (List.mem_of_getElem? hr)⟩

theorem RowF.start (w : World) (t : TypeId) (cur : Array Value) (n : Nat) (hs : cur.size = n * osz) : RowF Rd osz g (w.alloc (.cells cur t)) w.heap.size t n 0 ([] : List (β × δ)) :=
  ⟨rfl, Fill.start w t cur n hs, fun _ h => (List.not_mem_nil h).elim⟩
theorem RowF.push (L : RdLaws Rd) (h : RowF Rd osz g w B t n k R) (hb : Below w.heap.size w w1) {x : β} {d : δ} (hx : Rd w1 w.heap.size w1.heap.size x d) (ho : Only B (B + 1) w1 w2) (hf : Fill osz g w2 B t n (k + 1) ((R.map (·.1)) ++ [x])) :
    RowF Rd osz g w2 B t n (k + 1) (R ++ [(x, d)]) := by
  have hlt := h.fill.lt
  have hz := hb.size
  have hz2 := ho.size
  refine ⟨by rw [List.length_append, h.len]; rfl, by rw [List.map_append]; exact hf, fun r hr => ?_⟩
  rcases List.mem_append.1 hr with hr | hr
  · exact L.more (L.only (L.below (h.rows r hr) hb (.inr (Nat.le_refl _))) ho (.inr (Nat.le_refl _))) (Nat.le_refl _) (by omega)
  · rw [List.mem_singleton.1 hr]
    exact L.more (L.only hx ho (.inr (by omega))) (by omega) hz2
theorem RowF.done (L : RdLaws Rd) (h : RowF Rd osz g w B t n n R) : RowR Rd osz g w B w.heap.size (some ⟨B, 0, none⟩) n R :=
  ⟨h.fill.done (by rw [List.length_map, h.len]) (Nat.le_refl _) h.fill.lt, fun r hr => L.more (h.rows r hr) (Nat.le_succ _) (Nat.le_refl _)⟩
end

/-- Cells written one behind the other. -/
def putCells (w : World) (b : Nat) : Nat → List Value → World
  | _, [] => w
  | off, u :: us => putCells (w.setCell ⟨b, off, none⟩ u) b (off + 1) us

theorem putCells_row (b : Nat) (t : TypeId) (us : List Value) : ∀ (w : World) (off : Nat) (cur : Array Value), w.heap[b]? = some (.cells cur t (0, 0)) →
    ∃ cur', (putCells w b off us).heap[b]? = some (.cells cur' t (0, 0)) ∧ cur'.size = cur.size ∧ (∀ i, i < off → cur'[i]? = cur[i]?) ∧ (∀ j u, us[j]? = some u → off + us.length ≤ cur.size → cur'[off + j]? = some u) := by
  induction us with
  | nil => exact fun w off cur h => ⟨cur, h, rfl, fun _ _ => rfl, fun j u hu => by simp at hu⟩
  | cons v us ih =>
    intro w off cur h
    obtain ⟨cur', h1, h2, h3, h4⟩ := ih (w.setCell ⟨b, off, none⟩ v) (off + 1) (cur.setIfInBounds off v) (heap_setCell_same w b off cur t v h)
    refine ⟨cur', h1, by rw [h2]; simp, fun i hi => ?_, fun j u hu hl => ?_⟩
    · rw [h3 i (by omega), Array.getElem?_setIfInBounds_ne (by omega)]
    · simp only [List.length_cons] at hl
      cases j with
      | zero =>
        simp at hu
        subst hu
        rw [Nat.add_zero, h3 off (by omega)]
        simp [Array.getElem?_setIfInBounds]
        omega
      | succ j =>
        simp at hu
        have := h4 j u hu (by simp; omega)
        rwa [show off + (j + 1) = off + 1 + j by omega]

theorem putCells_only (b : Nat) (us : List Value) : ∀ (w : World) (off : Nat), Only b (b + 1) w (putCells w b off us) := by
  induction us with
  | nil => exact fun w _ => Only.refl _ _ _
  | cons v us ih => exact fun w off => ((Only.refl b (b + 1) w).setCell (p := ⟨b, off, none⟩) (Nat.le_refl _) (Nat.lt_succ_self _) v).trans (ih _ _)

/-- Element k laid by putCells. -/
theorem Fill.putN {α : Type} {size : Nat} {f : α → List Value} {w : World} {B n k : Nat} {t : TypeId} {l : List α} (h : Fill size f w B t n k l) (hk : k < n) (hlen : ∀ x, (f x).length = size) {x : α} (hx : l[k]? = some x) :
    Fill size f (putCells w B (k * size) (f x)) B t n (k + 1) l :=
  h.step hlen hx fun cur hc hs => by
    obtain ⟨cur', h1, h2, h3, h4⟩ := putCells_row B t (f x) w (k * size) cur hc
    refine ⟨cur', h1, h2, h3, fun j u hu => h4 j u hu ?_⟩
    rw [hlen x, hs]
    have := Nat.mul_le_mul_right size (show k + 1 ≤ n by omega)
    rw [Nat.add_mul] at this
    omega

end Go.Proofs.Ytdjhpdmpibokhaa
